import Derived.Test.YtkblhnedillknaaE4
set_option linter.unusedVariables false
set_option linter.unusedSimpArgs false
section
/- Quiet operations look at what they read alone. -/
namespace Go.Ev
open Go.RowKit (Below)

variable {P : Program} {T : Tab} {s s' s1 : St} {C : Cfg}

def updS (s : St) (d : Nat) (v : V) : Option Blk → St
  | none => s.put d v
  | some bk => (s.setB d bk).put d v

def MonoB (s s' : St) (v : V) : Prop := ∀ k bk, V.has k v = true → s.blk k = some bk → s'.blk k = some bk

def Same (s s' : St) (x : Operand) : Prop := s'.ev x = s.ev x ∧ MonoB s s' (s.ev x)

/-- Slot d is written, and perhaps block d made; of a state that looks the same, the same. -/
def QR (s : St) (d : Nat) (s1 : St) (Ag : St → Prop) (F : St → St → Prop) : Prop :=
  ∃ v ob, s1 = updS s d v ob ∧ (ob ≠ none → s.blk d = none) ∧ ∀ s', Ag s' → (ob ≠ none → s'.blk d = none) → F s' (updS s' d v ob)

theorem QR.plain {d : Nat} {Ag : St → Prop} {F : St → St → Prop} (v : V) (h1 : s1 = s.put d v) (h : ∀ s', Ag s' → F s' (s'.put d v)) : QR s d s1 Ag F :=
  ⟨v, none, h1, fun h => absurd rfl h, fun s' ha _ => h s' ha⟩

theorem QR.block {d : Nat} {Ag : St → Prop} {F : St → St → Prop} (bk : Blk) (v : V) (h1 : s1 = (s.setB d bk).put d v) (h2 : s.blk d = none) (h : ∀ s', Ag s' → s'.blk d = none → F s' ((s'.setB d bk).put d v)) : QR s d s1 Ag F :=
  ⟨v, some bk, h1, fun _ => h2, fun s' ha hb => h s' ha (hb (by simp))⟩

theorem contents_cong {v : V} {c : TypeId × D} (hm : MonoB s s' v) (h : contents T s v = some c) : contents T s' v = some c := by
  cases v with
  | slw k e =>
    simp only [contents] at h ⊢
    cases hk : s.blk k with
    | none => rw [hk] at h; cases h
    | some bk => rw [hk] at h; rw [hm k bk (by simp [V.has]) hk]; exact h
  | sl k off n e =>
    simp only [contents] at h ⊢
    cases hk : s.blk k with
    | none => rw [hk] at h; cases h
    | some bk => rw [hk] at h; rw [hm k bk (by simp [V.has]) hk]; exact h
  | _ => exact h

theorem lenV_cong {v : V} {n : Nat} (hm : MonoB s s' v) (h : lenV T s v = some n) : lenV T s' v = some n := by
  have gen : ∀ c, contents T s v = some c → contents T s' v = some c := fun c hc => contents_cong hm hc
  cases v <;> first
    | exact h
    | (simp only [lenV] at h ⊢
       revert h
       generalize hq : contents T s _ = q
       intro h
       cases q with
       | none => cases h
       | some c => rw [gen c hq]; exact h)

theorem loadV_cong {t : TypeId} {p v : V} (hm : MonoB s s' p) (h : loadV T s t p = some v) : loadV T s' t p = some v := by
  cases p with
  | ptr k off u =>
    simp only [loadV] at h ⊢
    cases hk : s.blk k with
    | none => rw [hk] at h; have h := (cond_some h).2; cases h
    | some bk => rw [hk] at h; rw [hm k bk (by simp [V.has]) hk]; exact h
  | _ => exact h

theorem addrOf_cong {t : TypeId} {x : V} {i : Int} {r : Bool × V} (hm : MonoB s s' x) (h : addrOf T s t x i = some r) : addrOf T s' t x i = some r := by
  unfold addrOf at h ⊢
  split
  · rename_i n e hd
    rw [hd] at h
    exact h
  · rename_i e hd
    rw [hd] at h
    simp only [] at h
    cases hl : lenV T s x with
    | none => rw [hl] at h; cases h
    | some n => rw [hl] at h; rw [lenV_cong hm hl]; exact h
  · rename_i h1 h2
    revert h
    split
    · rename_i n e hd; exact absurd hd (h1 n e)
    · rename_i e hd; exact absurd hd (h2 e)
    · exact id

theorem bounds_cong {n : Nat} {lo hi : Option Operand} (h1 : ∀ x, lo = some x → s'.ev x = s.ev x) (h2 : ∀ x, hi = some x → s'.ev x = s.ev x) : bounds s' n lo hi = bounds s n lo hi := by
  unfold bounds
  have : hiB s' n hi = hiB s n hi := by
    cases hi with
    | none => rfl
    | some x => simp only [hiB, h2 x rfl]
  rw [this]
  cases lo with
  | none => rfl
  | some x => simp only [h1 x rfl]

theorem partsOf_cong : ∀ (ps : List (Nat × Operand)), (∀ p ∈ ps, s'.ev p.2 = s.ev p.2) → partsOf s' ps = partsOf s ps := by
  intro ps
  induction ps with
  | nil => intro _; rfl
  | cons p ps ih =>
    intro h
    obtain ⟨i, x⟩ := p
    simp only [partsOf]
    rw [ih fun p hp => h p (by simp [hp]), h (i, x) (by simp)]

theorem snap1_cong {v v' : V} (hm : MonoB s s' v) (h : snap1 T s v = some v') : snap1 T s' v = some v' := by
  cases v with
  | slw k e =>
    simp only [snap1] at h ⊢
    revert h
    generalize hq : contents T s _ = q
    intro h
    cases q with
    | none => cases h
    | some c => rw [contents_cong hm hq]; exact h
  | sl k off n e =>
    simp only [snap1] at h ⊢
    revert h
    generalize hq : contents T s _ = q
    intro h
    cases q with
    | none => cases h
    | some c => rw [contents_cong hm hq]; exact h
  | ptr k off t =>
    simp only [snap1] at h ⊢
    cases hk : s.blk k with
    | none => rw [hk] at h; cases h
    | some bk => rw [hk] at h; rw [hm k bk (by simp [V.has]) hk]; exact h
  | _ => exact h

theorem MonoB.of_mem {k : Nat} : ∀ {vs : List V} {v : V}, v ∈ vs → V.has k v = true → V.hasL k vs = true := by
  intro vs v hv hh
  obtain ⟨i, hi⟩ := List.mem_iff_getElem?.1 hv
  exact hasL_of vs i v k hi hh

theorem snapL_cong : ∀ {vs vs' : List V}, (∀ v ∈ vs, MonoB s s' v) → snapL T s vs = some vs' → snapL T s' vs = some vs' := by
  intro vs
  induction vs with
  | nil => intro vs' _ h; exact h
  | cons v vs ih =>
    intro vs' hm h
    simp only [snapL] at h ⊢
    split at h
    · rename_i a b ha hb
      rw [snap1_cong (hm v (by simp)) ha, ih (fun v hv => hm v (by simp [hv])) hb]
      exact h
    · cases h

theorem snap_cong {t : TypeId} {v v' : V} (hm : MonoB s s' v) (h : snap C s t v = some v') : snap C s' t v = some v' := by
  cases v with
  | fn f first cap =>
    simp only [snap] at h ⊢
    obtain ⟨hc, h⟩ : memN f C.mv = false ∧ _ := by
      cases hm : memN f C.mv with
      | true => rw [hm] at h; cases h
      | false => rw [hm] at h; exact ⟨rfl, h⟩
    rw [hc]
    simp only [cond_false] at h ⊢
    split at h
    · rename_i a c ha hb
      rw [snapL_cong (fun v hv k bk hk => hm k bk (by simp [V.has, MonoB.of_mem hv hk])) ha, snapL_cong (fun v hv k bk hk => hm k bk (by simp [V.has, MonoB.of_mem hv hk])) hb]
      exact h
    · cases h
  | nil => exact h
  | _ => exact snap1_cong (T := C.T) hm h

theorem snapArgs_cong : ∀ {ts : List TypeId} {vs vs' : List V}, (∀ v ∈ vs, MonoB s s' v) → snapArgs C s ts vs = some vs' → snapArgs C s' ts vs = some vs' := by
  intro ts vs
  induction vs generalizing ts with
  | nil => intro vs' _ h; cases ts <;> exact h
  | cons v vs ih =>
    intro vs' hm h
    cases ts with
    | nil => cases h
    | cons t ts =>
      simp only [snapArgs] at h ⊢
      split at h
      · rename_i a b ha hb
        rw [snap_cong (hm v (by simp)) ha, ih (fun v hv => hm v (by simp [hv])) hb]
        exact h
      · cases h

theorem argOf_cong {a : TypeId} {v : V} {l : List Int} (hm : MonoB s s' v) (h : argOf T s a v = some l) : argOf T s' a v = some l := by
  unfold argOf at h ⊢
  split
  · rename_i e hd
    rw [hd] at h
    simp only [] at h
    revert h
    generalize hq : contents T s v = q
    intro h
    cases q with
    | none => cases h
    | some c => rw [contents_cong hm hq]; exact h
  · rename_i h1
    revert h
    split
    · rename_i e hd; exact absurd hd (h1 e)
    · exact id

theorem thaw_QR {d : Nat} {v : V} (h : thaw s d v = some s1) : QR s d s1 (fun _ => True) fun s' s1' => thaw s' d v = some s1' := by
  unfold thaw at h
  split at h
  · cases h
  · rename_i x hx
    injection h with h
    exact .plain x h.symm fun s' _ => by unfold thaw; rw [hx]
  · rename_i x e l hx
    split at h
    · rename_i hb
      injection h with h
      exact .block _ x h.symm hb fun s' _ hb' => by unfold thaw; rw [hx]; simp only [hb']
    · cases h

theorem QR.mono {d : Nat} {Ag Ag' : St → Prop} {F F' : St → St → Prop} (h : QR s d s1 Ag F) (ha : ∀ s', Ag' s' → Ag s') (hf : ∀ s' s1', Ag' s' → F s' s1' → F' s' s1') : QR s d s1 Ag' F' := by
  obtain ⟨v, ob, h1, h2, h3⟩ := h
  exact ⟨v, ob, h1, h2, fun s' a b => hf _ _ a (h3 s' (ha s' a) b)⟩

theorem map_ev_cong {xs : List Operand} (h : ∀ x ∈ xs, s'.ev x = s.ev x) : xs.map s'.ev = xs.map s.ev := List.map_congr_left h

theorem evCall_QR (hN : OraNat C.ora) {c : Call} {f : Operand} {d : Nat} (hmv : ∀ g first cap, s.ev f = .fn g first cap → memN g C.mv = false ∨ isFuncOp f = false) (h : evCall C s c f d some = some s1) :
    QR s d s1 (fun s' => Same s s' f ∧ ∀ x ∈ c.args.toList, Same s s' x) fun s' s1' => evCall C s' c f d some = some s1' := by
  unfold evCall at h
  have hargs : ∀ s', (∀ x ∈ c.args.toList, Same s s' x) → c.args.toList.map s'.ev = c.args.toList.map s.ev ∧ ∀ v ∈ c.args.toList.map s.ev, MonoB s s' v := fun s' hs =>
    ⟨map_ev_cong fun x hx => (hs x hx).1, fun v hv => by
      obtain ⟨x, hx, rfl⟩ := List.mem_map.1 hv
      exact (hs x hx).2⟩
  split at h
  · rename_i g first cap hfv
    split at h
    · rename_i va vb ea eb
      cases hm : memN g C.mv with
      | true =>
        rw [hm] at h
        simp only [cond_true] at h
        rcases hmv g first cap hfv with h1 | h1
        · rw [hm] at h1; cases h1
        · rw [h1] at h; cases h
      | false =>
        rw [hm] at h
        simp only [cond_false] at h
        split at h
        · rename_i as es
          rw [hN, Option.bind_eq_some_iff] at h
          obtain ⟨rs, hrs, hk⟩ := h
          split at hk
          · cases hk
          · rename_i hr2
            split at hk
            · rename_i s2 ht
              injection hk with hk
              subst hk
              refine (thaw_QR ht).mono (fun _ _ => trivial) ?_
              rintro s' s1' ⟨hf', ha'⟩ ht'
              obtain ⟨q1, q2⟩ := hargs s' ha'
              have hmf := hf'.2
              rw [hfv] at hmf
              unfold evCall
              rw [hf'.1, hfv]
              simp only []
              rw [snapL_cong (fun v hv k bk hk => hmf k bk (by simp [V.has, MonoB.of_mem hv hk])) ea, snapL_cong (fun v hv k bk hk => hmf k bk (by simp [V.has, MonoB.of_mem hv hk])) eb]
              simp only [hm, cond_false]
              rw [q1, snapArgs_cong q2 es]
              simp only []
              rw [hN, hrs]
              simp only [Option.bind_some, hr2, ht']
            · cases hk
        · cases h
    · cases h
  · rename_i t g hfv
    split at h
    · rename_i v hvs
      split at h
      · rename_i l hl
        rw [Option.bind_eq_some_iff] at h
        obtain ⟨b, hg, hk⟩ := h
        injection hk with hk
        refine .plain _ hk.symm ?_
        rintro s' ⟨hf', ha'⟩
        obtain ⟨q1, q2⟩ := hargs s' ha'
        unfold evCall
        rw [hf'.1, hfv]
        simp only []
        rw [q1, hvs]
        simp only []
        rw [argOf_cong (q2 v (by rw [hvs]; simp)) hl]
        simp only [hg, Option.bind_some]
      · cases h
    · cases h
  · rename_i t e g hfv
    split at h
    · rename_i v hvs
      split at h
      · rename_i l hl
        rw [Option.bind_eq_some_iff] at h
        obtain ⟨q, hg, hk⟩ := h
        split at hk
        · rename_i s2 ht
          injection hk with hk
          subst hk
          refine (thaw_QR ht).mono (fun _ _ => trivial) ?_
          rintro s' s1' ⟨hf', ha'⟩ ht'
          obtain ⟨q1, q2⟩ := hargs s' ha'
          unfold evCall
          rw [hf'.1, hfv]
          simp only []
          rw [q1, hvs]
          simp only []
          rw [argOf_cong (q2 v (by rw [hvs]; simp)) hl]
          simp only [hg, Option.bind_some, ht']
        · cases hk
      · cases h
    · cases h
  · cases h

end Go.Ev
end

section
/- Quiet operations look at what they read alone: each of them. -/
namespace Go.Ev
open Go.RowKit (Below)

variable {P : Program} {T : Tab} {s s' s1 : St} {C : Cfg} {d : Nat}

def AgOp (s : St) (op : Op) (s' : St) : Prop := ∀ x ∈ op.operands.toList, Same s s' x

def FR (T : Tab) (d : Nat) (op : Op) (s' s1' : St) : Prop := opR T s' d op = .ok true s1'

theorem putOk_QR {b : Bool} {v : V} {Ag : St → Prop} {F : St → Out} (h : putOk b s d v = .ok true s1) (hF : ∀ s', Ag s' → F s' = putOk b s' d v) : QR s d s1 Ag fun s' s1' => F s' = .ok true s1' := by
  obtain ⟨h1, h2⟩ := putOk_inv h
  subst h1
  exact .plain v h2 fun s' ha => by rw [hF s' ha]; rfl

theorem allocB_QR {bk : Blk} {v : V} {Ag : St → Prop} {F : St → Out} (h : allocB s d bk v = .ok true s1) (hF : ∀ s', Ag s' → F s' = allocB s' d bk v) : QR s d s1 Ag fun s' s1' => F s' = .ok true s1' := by
  obtain ⟨h1, _, h2⟩ := allocB_inv h
  exact .block bk v h2 h1 fun s' ha hb => by rw [hF s' ha]; unfold allocB; rw [hb]

theorem mem1 {x : Operand} {op : Op} {r : List Operand} (h : op.operands.toList = r) (hx : x ∈ r) : x ∈ op.operands.toList := h ▸ hx

theorem opR_QR {mv : List Nat} {op : Op} (hq : quietOp mv T op = true) (hnc : ∀ c f, op = .call c → c.callee ≠ .value f) (hnp : ∀ c x y, op ≠ .pick c x y) (hop : opR T s d op = .ok true s1) : QR s d s1 (AgOp s op) (FR T d op) := by
  cases op with
  | move x =>
    refine putOk_QR hop fun s' ha => ?_
    simp only [opR]
    rw [(ha x (by simp [Op.operands])).1]
  | alloc t =>
    simp only [opR] at hop
    cases hf : isFlatTy T t with
    | true =>
      rw [hf] at hop
      exact allocB_QR hop fun s' ha => by simp only [opR, hf, cond_true]
    | false =>
      rw [hf] at hop
      simp only [cond_false] at hop
      split at hop
      · rename_i hd
        exact allocB_QR hop fun s' ha => by simp only [opR, hf, cond_false, hd]
      · rename_i e hd
        exact allocB_QR hop fun s' ha => by simp only [opR, hf, cond_false, hd]
      · cases hop
  | build t ps =>
    have hps : ∀ s', AgOp s (.build t ps) s' → partsOf s' ps.toList = partsOf s ps.toList := fun s' ha => partsOf_cong _ fun p hp => (ha p.2 (by simp only [Op.operands, List.toList_toArray]; exact List.mem_map_of_mem hp)).1
    simp only [opR] at hop
    split at hop
    · rename_i fs hd
      obtain ⟨h1, hop⟩ := cond_ok hop
      split at hop
      · rename_i l hl
        exact putOk_QR hop fun s' ha => by simp only [opR, hd, h1, cond_true, hps s' ha, hl]
      · cases hop
    · rename_i n e hd
      obtain ⟨h1, hop⟩ := cond_ok hop
      split at hop
      · rename_i l hl
        exact putOk_QR hop fun s' ha => by simp only [opR, hd, h1, cond_true, hps s' ha, hl]
      · cases hop
    · cases hop
  | load t p =>
    simp only [opR] at hop
    split at hop
    · rename_i v hv
      refine putOk_QR hop fun s' ha => ?_
      obtain ⟨h1, h2⟩ := ha p (by simp [Op.operands])
      simp only [opR]
      rw [h1, loadV_cong h2 hv]
    · cases hop
  | nilCheck x =>
    simp only [opR] at hop
    split at hop
    · rename_i k off t hx
      exact putOk_QR hop fun s' ha => by simp only [opR]; rw [(ha x (by simp [Op.operands])).1, hx]
    · rename_i t0 l off t hx
      exact putOk_QR hop fun s' ha => by simp only [opR]; rw [(ha x (by simp [Op.operands])).1, hx]
    · rename_i vs off t hx
      exact putOk_QR hop fun s' ha => by simp only [opR]; rw [(ha x (by simp [Op.operands])).1, hx]
    · cases hop
  | binOp op t x y p =>
    simp only [opR] at hop
    split at hop
    · rename_i b v hv
      exact putOk_QR hop fun s' ha => by simp only [opR]; rw [(ha x (by simp [Op.operands])).1, (ha y (by simp [Op.operands])).1, hv]
    · cases hop
  | unOp op t x =>
    simp only [opR] at hop
    split at hop
    · rename_i k n hx
      exact putOk_QR hop fun s' ha => by simp only [opR]; rw [(ha x (by simp [Op.operands])).1, hx]
    · rename_i b hx
      exact putOk_QR hop fun s' ha => by simp only [opR]; rw [(ha x (by simp [Op.operands])).1, hx]
    · cases hop
  | convert u t x =>
    simp only [opR] at hop
    split at hop
    · rename_i k j n hd hx
      obtain ⟨h1, hop⟩ := cond_ok hop
      exact putOk_QR hop fun s' ha => by simp only [opR]; rw [(ha x (by simp [Op.operands])).1, hx, hd]; simp only [h1, cond_true]
    · cases hop
  | makeFunc f first cap =>
    cases f with
    | func f =>
      simp only [opR] at hop
      refine putOk_QR hop fun s' ha => ?_
      simp only [opR]
      rw [map_ev_cong fun x hx => (ha x (by simp only [Op.operands, Array.toList_append]; exact List.mem_append_left _ hx)).1, map_ev_cong fun x hx => (ha x (by simp only [Op.operands, Array.toList_append]; exact List.mem_append_right _ hx)).1]
    | _ => simp [opR] at hop
  | slice t x lo hi mx =>
    cases mx with
    | some m => simp [opR] at hop
    | none =>
      have hx' : ∀ s', AgOp s (.slice t x lo hi none) s' → Same s s' x := fun s' ha => ha x (by simp [Op.operands])
      have hb' : ∀ s' n, AgOp s (.slice t x lo hi none) s' → bounds s' n lo hi = bounds s n lo hi := fun s' n ha => bounds_cong (fun y hy => (ha y (by subst hy; simp [Op.operands])).1) (fun y hy => (ha y (by subst hy; simp [Op.operands])).1)
      simp only [opR] at hop
      split at hop
      · rename_i b hx
        split at hop
        · rename_i c l h hd hbo
          refine putOk_QR hop fun s' ha => ?_
          simp only [opR]
          rw [(hx' s' ha).1, hx]
          simp only [hb' s' _ ha, hd, hbo]
        · cases hop
      · rename_i e l hx
        obtain ⟨h1, hop⟩ := cond_ok hop
        split at hop
        · rename_i c l h hbo
          refine putOk_QR hop fun s' ha => ?_
          simp only [opR]
          rw [(hx' s' ha).1, hx]
          simp only [hb' s' _ ha, h1, cond_true, hbo]
        · cases hop
      · rename_i k e hx
        obtain ⟨h1, hop⟩ := cond_ok hop
        split at hop
        · rename_i n e0 r0 l0 hn hk
          split at hop
          · rename_i c l h hbo
            refine putOk_QR hop fun s' ha => ?_
            obtain ⟨q1, q2⟩ := hx' s' ha
            rw [hx] at q1 q2
            simp only [opR]
            rw [q1]
            simp only [hb' s' _ ha, h1, cond_true, lenV_cong q2 hn, q2 k _ (by simp [V.has]) hk, hbo]
          · cases hop
        · cases hop
      · rename_i k off n e hx
        obtain ⟨h1, hop⟩ := cond_ok hop
        split at hop
        · rename_i c l h hbo
          refine putOk_QR hop fun s' ha => ?_
          simp only [opR]
          rw [(hx' s' ha).1, hx]
          simp only [hb' s' _ ha, h1, cond_true, hbo]
        · cases hop
      · rename_i k off u hx
        obtain ⟨h1, hop⟩ := cond_ok hop
        split at hop
        · rename_i n e e0 r0 l0 hd hk
          split at hop
          · rename_i c l h hbo
            obtain ⟨h2, hop⟩ := cond_ok hop
            refine putOk_QR hop fun s' ha => ?_
            obtain ⟨q1, q2⟩ := hx' s' ha
            rw [hx] at q1 q2
            simp only [opR]
            rw [q1]
            simp only [hb' s' _ ha, h1, cond_true, hd, q2 k _ (by simp [V.has]) hk, hbo, h2]
          · cases hop
        · cases hop
      · cases hop
  | fieldAddr t x i =>
    simp only [opR] at hop
    split at hop
    · rename_i fs hd
      split at hop
      · rename_i o u hfo
        obtain ⟨h1, hop⟩ := cond_ok hop
        split at hop
        · rename_i k off t' hx
          obtain ⟨h2, hop⟩ := cond_ok hop
          exact putOk_QR hop fun s' ha => by simp only [opR]; rw [(ha x (by simp [Op.operands])).1, hx]; simp only [hd, hfo, h1, h2, cond_true]
        · rename_i t0 l off t' hx
          obtain ⟨h2, hop⟩ := cond_ok hop
          exact putOk_QR hop fun s' ha => by simp only [opR]; rw [(ha x (by simp [Op.operands])).1, hx]; simp only [hd, hfo, h1, h2, cond_true]
        · rename_i vs off t' hx
          obtain ⟨h2, hop⟩ := cond_ok hop
          exact putOk_QR hop fun s' ha => by simp only [opR]; rw [(ha x (by simp [Op.operands])).1, hx]; simp only [hd, hfo, h1, h2, cond_true]
        · cases hop
      · cases hop
    · cases hop
  | field t x i =>
    simp only [opR] at hop
    split at hop
    · rename_i fs hd
      split at hop
      · rename_i o u hfo
        split at hop
        · rename_i t' l hx
          obtain ⟨h1, hop⟩ := cond_ok hop
          exact putOk_QR hop fun s' ha => by simp only [opR]; rw [(ha x (by simp [Op.operands])).1, hx]; simp only [hd, hfo, h1, cond_true]
        · cases hop
      · cases hop
    · cases hop
  | indexAddr t x i =>
    simp only [opR] at hop
    split at hop
    · rename_i k n hi
      split at hop
      · rename_i b v hv
        refine putOk_QR hop fun s' ha => ?_
        obtain ⟨q1, q2⟩ := ha x (by simp [Op.operands])
        simp only [opR]
        rw [(ha i (by simp [Op.operands])).1, hi]
        simp only []
        rw [q1, addrOf_cong q2 hv]
      · cases hop
    · cases hop
  | index t x i =>
    simp only [opR] at hop
    split at hop
    · rename_i k n hi
      split at hop
      · rename_i t' l hx
        obtain ⟨h1, hop⟩ := cond_ok hop
        split at hop
        · rename_i m e hd
          obtain ⟨h2, hop⟩ := cond_ok hop
          exact putOk_QR hop fun s' ha => by simp only [opR]; rw [(ha i (by simp [Op.operands])).1, (ha x (by simp [Op.operands])).1, hi, hx]; simp only [h1, hd, h2, cond_true]
        · cases hop
      · rename_i b hx
        obtain ⟨h1, hop⟩ := cond_ok hop
        exact putOk_QR hop fun s' ha => by simp only [opR]; rw [(ha i (by simp [Op.operands])).1, (ha x (by simp [Op.operands])).1, hi, hx]; simp only [h1, cond_true]
      · cases hop
    · cases hop
  | extract x i =>
    simp only [opR] at hop
    split at hop
    · rename_i vs hx
      split at hop
      · rename_i v hv
        exact putOk_QR hop fun s' ha => by simp only [opR]; rw [(ha x (by simp [Op.operands])).1, hx]; simp only [hv]
      · cases hop
    · cases hop
  | box t x =>
    have hx' : ∀ s', AgOp s (.box t x) s' → s'.ev x = s.ev x := fun s' ha => (ha x (by simp [Op.operands])).1
    simp only [opR] at hop
    have key : ∀ (F : St → Out), (∀ s', AgOp s (.box t x) s' → opR T s' d (.box t x) = F s') → QR s d s1 (AgOp s (.box t x)) (fun s' s1' => F s' = .ok true s1') → QR s d s1 (AgOp s (.box t x)) (FR T d (.box t x)) := fun F h1 h2 => h2.mono (fun _ h => h) fun s' s1' ha hf => by show opR T s' d (.box t x) = _; rw [h1 s' ha]; exact hf
    split at hop
    · rename_i b hx
      cases hc : (!known T t || (T.at t).d.isAgg) with
      | true => rw [hc] at hop; cases hop
      | false =>
        rw [hc] at hop
        exact allocB_QR hop fun s' ha => by simp only [opR]; rw [hx' s' ha, hx]; simp only [hc, cond_false]
    · rename_i e l hx
      cases hc : (!known T t || (T.at t).d.isAgg) with
      | true => rw [hc] at hop; cases hop
      | false =>
        rw [hc] at hop
        exact allocB_QR hop fun s' ha => by simp only [opR]; rw [hx' s' ha, hx]; simp only [hc, cond_false]
    · rename_i e l hx
      cases hc : (!known T t || (T.at t).d.isAgg) with
      | true => rw [hc] at hop; cases hop
      | false =>
        rw [hc] at hop
        exact allocB_QR hop fun s' ha => by simp only [opR]; rw [hx' s' ha, hx]; simp only [hc, cond_false]
    · rename_i e l hx
      cases hc : (!known T t || (T.at t).d.isAgg) with
      | true => rw [hc] at hop; cases hop
      | false =>
        rw [hc] at hop
        exact allocB_QR hop fun s' ha => by simp only [opR]; rw [hx' s' ha, hx]; simp only [hc, cond_false]
    · rename_i e e' l hx
      cases hc : (!known T t || (T.at t).d.isAgg) with
      | true => rw [hc] at hop; cases hop
      | false =>
        rw [hc] at hop
        exact allocB_QR hop fun s' ha => by simp only [opR]; rw [hx' s' ha, hx]; simp only [hc, cond_false]
    · obtain ⟨h1, hop⟩ := cond_ok hop
      split at hop
      · rename_i l hl
        refine allocB_QR hop fun s' ha => ?_
        simp only [opR]
        rw [hx' s' ha]
        cases hv : s.ev x <;> simp_all [V.flat]
      · cases hop
  | buildSlice t n ps =>
    have hps : ∀ s', AgOp s (.buildSlice t n ps) s' → partsOf s' ps.toList = partsOf s ps.toList := fun s' ha => partsOf_cong _ fun p hp => (ha p.2 (by simp only [Op.operands, List.toList_toArray]; exact List.mem_map_of_mem hp)).1
    simp only [opR] at hop
    simp only [quietOp] at hq
    split at hop
    · rename_i e hd
      rw [hd] at hq
      simp only [] at hq
      rw [hq] at hop
      simp only [cond_true] at hop
      split at hop
      · rename_i l hl
        obtain ⟨h1, hop⟩ := cond_ok hop
        exact allocB_QR hop fun s' ha => by simp only [opR, hd, hq, cond_true, hps s' ha, hl, h1]
      · cases hop
    · cases hop
  | call c =>
    have hargs : ∀ s' x, AgOp s (.call c) s' → x ∈ c.args.toList → Same s s' x := fun s' x ha hx => ha x (by simp only [Op.operands, Call.operands, Array.toList_append]; exact List.mem_append_right _ hx)
    simp only [opR] at hop
    split at hop
    · rename_i x t hc hax hty
      split at hop
      · rename_i b hx
        obtain ⟨h1, hop⟩ := cond_ok hop
        exact putOk_QR hop fun s' ha => by simp only [opR, hc, hax, hty]; rw [(hargs s' x ha (by rw [hax]; simp)).1, hx]; simp only [h1, cond_true]
      · rename_i v hns
        obtain ⟨h1, hop⟩ := cond_ok hop
        split at hop
        · rename_i n hn
          refine putOk_QR hop fun s' ha => ?_
          obtain ⟨q1, q2⟩ := hargs s' x ha (by rw [hax]; simp)
          simp only [opR, hc, hax, hty]
          rw [q1]
          cases hv : s.ev x with
          | str b => exact absurd hv (hns b)
          | _ =>
            rw [hv] at hn q2
            simp only [h1, cond_true, lenV_cong q2 hn]
        · cases hop
    · rename_i x y hc hax
      split at hop
      · rename_i k a b hx hy
        exact putOk_QR hop fun s' ha => by simp only [opR, hc, hax]; rw [(hargs s' x ha (by rw [hax]; simp)).1, (hargs s' y ha (by rw [hax]; simp)).1, hx, hy]
      · cases hop
    · rename_i x y hc hax
      split at hop
      · rename_i k a b hx hy
        exact putOk_QR hop fun s' ha => by simp only [opR, hc, hax]; rw [(hargs s' x ha (by rw [hax]; simp)).1, (hargs s' y ha (by rw [hax]; simp)).1, hx, hy]
      · cases hop
    · rename_i hc hax hty
      simp [quietOp, hc] at hq
    · rename_i hc hax hty
      simp [quietOp, hc] at hq
    · cases hop
  | _ => first | (simp [quietOp] at hq; done) | exact absurd rfl (hnp _ _ _)

end Go.Ev
end

section
/- Regions that draw their order. -/
namespace Go.Ev
open Go.RowKit (Below)

variable {P : Program} {w0 w w' : World} {M X : Nat → Prop} {ρ : Nat → Loc} {N : Nat → Loc × Blk} {s s' s1 : St} {a : Act} {Fr : Nat → Prop} {blk : Nat → Option Blk} {C : Cfg} {d : Nat}

/-- As QR, seen from without. -/
structure UpdE (s s1 : St) (d : Nat) (v : V) (ob : Option Blk) : Prop where
  n : s1.n = s.n
  get : ∀ t, s1.get t = if t = d then v else s.get t
  blk : ∀ k, s1.blk k = match ob with | none => s.blk k | some bk => if k = d then some bk else s.blk k

theorem updS_E (s : St) (d : Nat) (v : V) (ob : Option Blk) : UpdE s (updS s d v ob) d v ob := by
  cases ob with
  | none =>
    refine ⟨rfl, fun t => ?_, fun k => rfl⟩
    by_cases e : t = d
    · subst e; rw [if_pos rfl]; exact get_put_self _ _ _
    · rw [if_neg e]; exact get_put_ne _ _ (Ne.symm e)
  | some bk =>
    refine ⟨rfl, fun t => ?_, fun k => ?_⟩
    · by_cases e : t = d
      · subst e; rw [if_pos rfl]; exact get_put_self _ _ _
      · rw [if_neg e]; exact get_put_ne _ _ (Ne.symm e)
    · simp only []
      by_cases e : k = d
      · subst e; rw [if_pos rfl]; exact blk_setB_self _ _ _
      · rw [if_neg e]; exact blk_setB_ne _ _ (Ne.symm e)

theorem blt_lt {a b : Nat} (h : Nat.blt a b = true) : a < b := by simpa [Nat.blt_eq] using h

theorem evOp_QR (hN : OraNat C.ora) {o : Oper} (hq : quietOp C.mv C.T o.op = true) (hd : o.dst = some d) (h : evOp C s o some = some s1) :
    QR s d s1 (fun s' => s'.n = s.n ∧ AgOp s o.op s') fun s' s1' => evOp C s' o some = some s1' := by
  unfold evOp at h
  rw [hd] at h
  simp only [] at h
  obtain ⟨hlt, h⟩ := cond_some h
  have fold : ∀ (F : St → St → Prop), QR s d s1 (AgOp s o.op) F → (∀ s' s1', s'.n = s.n → AgOp s o.op s' → F s' s1' → evOp C s' o some = some s1') → QR s d s1 (fun s' => s'.n = s.n ∧ AgOp s o.op s') fun s' s1' => evOp C s' o some = some s1' :=
    fun F h1 h2 => h1.mono (fun _ h => h.2) fun s' s1' hn hf => h2 s' s1' hn.1 hn.2 hf
  have gen : (∀ c f, o.op = .call c → c.callee ≠ .value f) → (∀ c x y, o.op ≠ .pick c x y) → outK (opR C.T s d o.op) some = some s1 → QR s d s1 (fun s' => s'.n = s.n ∧ AgOp s o.op s') fun s' s1' => evOp C s' o some = some s1' := by
    intro h1 h2 h3
    cases hop : opR C.T s d o.op with
    | bad => rw [hop] at h3; cases h3
    | ok b s2 =>
      rw [hop] at h3
      simp only [outK] at h3
      obtain ⟨hb, h3⟩ := cond_some h3
      subst hb
      injection h3 with h3
      subst h3
      refine fold _ (opR_QR hq h1 h2 hop) ?_
      intro s' s1' hn ha hf
      unfold evOp
      rw [hd, hn]
      simp only [hlt, cond_true]
      unfold FR at hf
      split
      · rename_i c x y hp; exact absurd hp (h2 c x y)
      · rename_i c hc
        split
        · rename_i f hcf; exact absurd hcf (h1 c f hc)
        · rw [hf]; rfl
      · rename_i x hp; rw [hp] at hq; cases hq
      · rw [hf]; rfl
  split at h
  · rename_i c x y hp
    split at h
    · rename_i t ht
      refine .plain (cond t (s.ev x) (s.ev y)) (by cases t <;> (injection h with h; exact h.symm)) ?_
      rintro s' ⟨hn, ha⟩
      have hx : ∀ z ∈ [c, x, y], s'.ev z = s.ev z := fun z hz => (ha z (by rw [hp]; simpa [Op.operands] using hz)).1
      unfold evOp
      rw [hd, hn, hp]
      simp only [hlt, cond_true]
      rw [hx c (by simp), ht]
      cases t with
      | true => simp only [cond_true]; rw [hx x (by simp)]
      | false => simp only [cond_false]; rw [hx y (by simp)]
    · cases h
  · rename_i c hc
    split at h
    · rename_i f hcf
      refine fold _ ((evCall_QR hN (C := C) ?_ h).mono (Ag' := AgOp s o.op) (F' := fun s' s1' => evCall C s' c f d some = some s1') ?_ fun s' s1' _ h => h) ?_
      · intro g first cap hfv
        cases f with
        | func f0 =>
          rw [hc] at hq
          simp only [quietOp, hcf] at hq
          simp only [St.ev, V.fn.injEq] at hfv
          obtain ⟨rfl, _, _⟩ := hfv
          left
          simpa using hq
        | _ => right; rfl
      · intro s' ha
        rw [hc] at ha
        refine ⟨ha f (by simp [Op.operands, Call.operands, hcf]), fun x hx => ha x ?_⟩
        simp only [Op.operands, Call.operands, Array.toList_append]
        exact List.mem_append_right _ hx
      · intro s' s1' hn _ hf
        unfold evOp
        rw [hd, hn, hc]
        simp only [hlt, cond_true, hcf]
        exact hf
    · rename_i hcf
      refine gen ?_ ?_ h
      · intro c' f hc' hcf'
        rw [hc] at hc'
        injection hc' with hc'
        subst hc'
        exact hcf f hcf'
      · intro c' x y hp; rw [hc] at hp; cases hp
  · rename_i x hp
    rw [hp] at hq
    cases hq
  · rename_i h1 h2 _
    refine gen ?_ ?_ h
    · intro c f hc _
      exact h2 c hc
    · exact h1

/-! ## With its guard -/

def Agree (ops : List Oper) (s s' : St) (o : Oper) : Prop := s'.n = s.n ∧ ∀ t ∈ readsOf ops o, s'.get t = s.get t ∧ MonoB s s' (s.get t)

theorem mem_tmpsOf {t : Tmp} {l : List Operand} (h : Operand.tmp t ∈ l) : t ∈ tmpsOf l := by
  simp only [tmpsOf, List.mem_filterMap]
  exact ⟨_, h, rfl⟩

theorem ofConst_has (v : Value) (k : Nat) : V.has k (ofConst v) = false := by
  unfold ofConst
  split <;> rfl

theorem Agree.op {ops : List Oper} {o : Oper} (h : Agree ops s s' o) : AgOp s o.op s' := by
  intro x hx
  cases x with
  | tmp t => exact h.2 t (List.mem_append_left _ (mem_tmpsOf hx))
  | const v => exact ⟨rfl, fun k bk hk => by simp only [St.ev, ofConst_has] at hk; cases hk⟩
  | global g => exact ⟨rfl, fun k bk hk => by cases hk⟩
  | func f => exact ⟨rfl, fun k bk hk => by simp [St.ev, V.has, V.hasL] at hk⟩

theorem get_put_eq {t : Nat} {v : V} (h : s.get t = v) (u : Nat) : (s.put t v).get u = s.get u := by
  by_cases e : t = u
  · subst e; rw [get_put_self, h]
  · exact get_put_ne _ _ e

theorem Agree.put {ops : List Oper} {o : Oper} {t : Nat} {v : V} (h : Agree ops s s' o) (h1 : s.get t = v) (h2 : s'.get t = v) : Agree ops (s.put t v) (s'.put t v) o :=
  ⟨h.1, fun u hu => by rw [get_put_eq h1, get_put_eq h2]; exact h.2 u hu⟩

theorem UpdE.ofPut {t : Nat} {v : V} {u : V} {ob : Option Blk} (h : s.get t = v) (hu : UpdE (s.put t v) s1 d u ob) : UpdE s s1 d u ob :=
  ⟨hu.n, fun x => by rw [hu.get x, get_put_eq h], hu.blk⟩

theorem evG_QR (hN : OraNat C.ora) {ops : List Oper} {o : Oper} (hq : quietOp C.mv C.T o.op = true) (hd : o.dst = some d) (h : evG C ops s o = some s1) :
    ∃ v ob, UpdE s s1 d v ob ∧ (ob ≠ none → s.blk d = none) ∧ ∀ s', Agree ops s s' o → (ob ≠ none → s'.blk d = none) → ∃ s1', evG C ops s' o = some s1' ∧ UpdE s' s1' d v ob := by
  unfold evG at h
  split at h
  · rename_i hg
    obtain ⟨v, ob, h1, h2, h3⟩ := evOp_QR hN hq hd h
    refine ⟨v, ob, h1 ▸ updS_E _ _ _ _, h2, fun s' ha hb => ⟨_, ?_, updS_E _ _ _ _⟩⟩
    unfold evG
    rw [hg]
    exact h3 s' ⟨ha.1, ha.op⟩ hb
  · rename_i j want hg
    split at h
    · cases h
    · rename_i dj hdj
      have hread : dj ∈ readsOf ops o := by
        refine List.mem_append_right _ ?_
        rw [hg]
        simp only []
        rw [hdj]
        simp
      split at h
      · rename_i b hb
        by_cases hbw : b = want
        · subst hbw
          simp only [beq_self_eq_true, cond_true] at h
          obtain ⟨v, ob, h1, h2, h3⟩ := evOp_QR hN hq hd h
          refine ⟨v, ob, UpdE.ofPut hb (h1 ▸ updS_E _ _ _ _), h2, fun s' ha hbn => ?_⟩
          have hb' : s'.get dj = .bool b := (ha.2 dj hread).1.trans hb
          refine ⟨updS (s'.put dj (.bool b)) d v ob, ?_, UpdE.ofPut hb' (updS_E _ _ _ _)⟩
          unfold evG
          rw [hg]
          simp only []
          rw [hdj]
          simp only []
          rw [hb']
          simp only [beq_self_eq_true, cond_true]
          exact h3 _ ⟨ha.1, (ha.put hb hb').op⟩ hbn
        · have hbf : (b == want) = false := by simpa using hbw
          rw [hbf, hd] at h
          simp only [cond_false, Option.some.injEq, putD] at h
          have hbn : b = !want := by cases b <;> cases want <;> simp_all
          subst h
          refine ⟨.skip, none, UpdE.ofPut (v := .bool (!want)) (hbn ▸ hb) (updS_E _ _ _ none), fun h => absurd rfl h, fun s' ha _ => ?_⟩
          have hb' : s'.get dj = .bool b := (ha.2 dj hread).1.trans hb
          refine ⟨updS (s'.put dj (.bool (!want))) d .skip none, ?_, UpdE.ofPut (v := .bool (!want)) (hbn ▸ hb') (updS_E _ _ _ _)⟩
          unfold evG
          rw [hg]
          simp only []
          rw [hdj]
          simp only []
          rw [hb']
          simp only [hbf, cond_false]
          rw [hd]
          rfl
      · rename_i hb
        rw [hd] at h
        simp only [Option.some.injEq, putD] at h
        subst h
        refine ⟨.skip, none, updS_E _ _ _ none, fun h => absurd rfl h, fun s' ha _ => ?_⟩
        have hb' : s'.get dj = .skip := (ha.2 dj hread).1.trans hb
        refine ⟨updS s' d .skip none, ?_, updS_E _ _ _ _⟩
        unfold evG
        rw [hg]
        simp only []
        rw [hdj]
        simp only []
        rw [hb']
        simp only []
        rw [hd]
        rfl
      · cases h

/-! ## References lead to blocks -/

theorem bv_noRef {T : Tab} {Fr : Nat → Prop} {v : V} {u : Value} (h : BV P T w Fr v u) (k : Nat) : V.has k v = false := by
  cases h with
  | flat v u hf => cases v <;> first | rfl | exact hf.elim
  | _ => rfl

theorem hasL_mem {k : Nat} : ∀ {vs : List V}, V.hasL k vs = true → ∃ (i : Nat) (v : V), vs[i]? = some v ∧ V.has k v = true := by
  intro vs
  induction vs with
  | nil => intro h; cases h
  | cons x r ih =>
    intro h
    simp only [V.hasL, Bool.or_eq_true] at h
    rcases h with h | h
    · exact ⟨0, x, rfl, h⟩
    · obtain ⟨i, v, h1, h2⟩ := ih h
      exact ⟨i + 1, v, by simpa using h1, h2⟩

theorem lv_blk {T : Tab} {Fr : Nat → Prop} {v : V} {u : Value} (h : LV P T w Fr blk ρ v u) {k : Nat} (hk : V.has k v = true) : ∃ bk, blk k = some bk := by
  induction h with
  | bv v u hb => rw [bv_noRef hb] at hk; cases hk
  | ptr k' off t bk b base lim h1 h2 h3 => simp only [V.has] at hk; rw [← Nat.eq_of_beq_eq_true hk]; exact ⟨_, h1⟩
  | slw k' e bk b base lim n cap h1 => simp only [V.has] at hk; rw [← Nat.eq_of_beq_eq_true hk]; exact ⟨_, h1⟩
  | slwNil k' e bk ad h1 => simp only [V.has] at hk; rw [← Nat.eq_of_beq_eq_true hk]; exact ⟨_, h1⟩
  | sl k' off n e e0 r l ad cap h1 => simp only [V.has] at hk; rw [← Nat.eq_of_beq_eq_true hk]; exact ⟨_, h1⟩
  | tup vs arr h1 _ ih =>
    simp only [V.has] at hk
    obtain ⟨i, v, g1, g2⟩ := hasL_mem hk
    exact ih i v g1 g2
  | fn f first cap x y h1 h2 _ _ ih1 ih2 =>
    simp only [V.has, Bool.or_eq_true] at hk
    rcases hk with hk | hk
    · obtain ⟨i, v, g1, g2⟩ := hasL_mem hk
      exact ih1 i v g1 g2
    · obtain ⟨i, v, g1, g2⟩ := hasL_mem hk
      exact ih2 i v g1 g2

end Go.Ev
end

section
/- Regions that draw their order: whatever is drawn, the text's order tells what comes of it. -/
namespace Go.Ev
open Go.RowKit (Below)

variable {P : Program} {w0 w w' : World} {M X : Nat → Prop} {ρ : Nat → Loc} {N : Nat → Loc × Blk} {s s' s1 : St} {a : Act} {Fr : Nat → Prop} {blk : Nat → Option Blk} {C : Cfg} {d : Nat}

theorem allIx_spec {α : Type} {p : Nat → α → Bool} : ∀ {l : List α} {i : Nat}, allIx p i l = true → ∀ {j : Nat} {x : α}, l[j]? = some x → p (i + j) x = true := by
  intro l
  induction l with
  | nil => intro i _ j x h; simp at h
  | cons y l ih =>
    intro i h j x hx
    simp only [allIx, Bool.and_eq_true] at h
    cases j with
    | zero => simp at hx; subst hx; exact h.1
    | succ j =>
      have := ih h.2 (j := j) (x := x) (by simpa using hx)
      rwa [Nat.add_right_comm] at this

theorem allBelow_spec {p : Nat → Bool} : ∀ {n : Nat}, allBelow p n = true → ∀ j, j < n → p j = true := by
  intro n
  induction n with
  | zero => intro _ j h; omega
  | succ n ih =>
    intro h j hj
    simp only [allBelow, Bool.and_eq_true] at h
    rcases Nat.lt_or_ge j n with h1 | h1
    · exact ih h.1 j h1
    · have : j = n := by omega
      subst this; exact h.2

theorem memN_mem {k : Nat} : ∀ {l : List Nat}, memN k l = true → k ∈ l := by
  intro l
  induction l with
  | nil => intro h; cases h
  | cons x l ih =>
    intro h
    simp only [memN, Bool.or_eq_true] at h
    rcases h with h | h
    · rw [Nat.eq_of_beq_eq_true h]; simp
    · exact List.mem_cons_of_mem _ (ih h)

theorem quietLen_spec {mv : List Nat} {T : Tab} : ∀ {ops : List Oper} {i : Nat}, i < quietLen mv T ops → ∃ o, ops[i]? = some o ∧ quietOp mv T o.op = true ∧ ∃ d, o.dst = some d := by
  intro ops
  induction ops with
  | nil => intro i h; simp [quietLen] at h
  | cons o ops ih =>
    intro i h
    simp only [quietLen] at h
    cases hc : (quietOp mv T o.op && o.dst.isSome) with
    | false => rw [hc] at h; simp at h
    | true =>
      rw [hc] at h
      simp only [cond_true] at h
      obtain ⟨h1, h2⟩ := and_true hc
      cases i with
      | zero => exact ⟨o, rfl, h1, Option.isSome_iff_exists.1 h2⟩
      | succ i =>
        obtain ⟨o', g1, g2⟩ := ih (i := i) (by omega)
        exact ⟨o', by simpa using g1, g2⟩

theorem quietLen_le {mv : List Nat} {T : Tab} : ∀ (ops : List Oper), quietLen mv T ops ≤ ops.length := by
  intro ops
  induction ops with
  | nil => simp [quietLen]
  | cons o ops ih =>
    simp only [quietLen]
    cases (quietOp mv T o.op && o.dst.isSome) with
    | false => simp
    | true => simp only [cond_true, List.length_cons]; omega

theorem evOps_chain (hN : OraNat C.ora) {ops : List Oper} {R : Type} {K : St → Option R} {r : R} : ∀ (l : List Oper) (s : St), evOps C ops l s K = some r →
    ∃ S : Nat → St, S 0 = s ∧ (∀ (i : Nat) (o : Oper), l[i]? = some o → evG C ops (S i) o = some (S (i + 1))) ∧ K (S l.length) = some r := by
  intro l
  induction l with
  | nil => intro s h; exact ⟨fun _ => s, rfl, fun i o hi => by simp at hi, h⟩
  | cons o l ih =>
    intro s h
    rw [evOps_cons hN, Option.bind_eq_some_iff] at h
    obtain ⟨s1, h1, h2⟩ := h
    obtain ⟨S, g1, g2, g3⟩ := ih s1 h2
    refine ⟨fun | 0 => s | n + 1 => S n, rfl, ?_, g3⟩
    intro i o' hi
    cases i with
    | zero => simp at hi; subst hi; simp only []; rw [g1]; exact h1
    | succ i => exact g2 i o' (by simpa using hi)

/-! ## The quiet operations of a set, done -/

abbrev Eff := Nat × V × Option Blk

structure Mix (S0 : St) (m : Nat) (D : Nat → Eff) (L : Nat → Prop) (s' : St) : Prop where
  n : s'.n = S0.n
  get0 : ∀ t, (∀ i, i < m → L i → (D i).1 ≠ t) → s'.get t = S0.get t
  get1 : ∀ i, i < m → L i → s'.get (D i).1 = (D i).2.1
  blk0 : ∀ k, (∀ i, i < m → L i → (D i).1 = k → (D i).2.2 = none) → s'.blk k = S0.blk k
  blk1 : ∀ i, i < m → L i → ∀ bk, (D i).2.2 = some bk → s'.blk (D i).1 = some bk

theorem Mix.congr {S0 : St} {m : Nat} {D : Nat → Eff} {L L' : Nat → Prop} (h : Mix S0 m D L s') (hl : ∀ i, i < m → (L' i ↔ L i)) : Mix S0 m D L' s' :=
  ⟨h.n, fun t ht => h.get0 t fun i hi hL => ht i hi ((hl i hi).2 hL), fun i hi hL => h.get1 i hi ((hl i hi).1 hL), fun k hk => h.blk0 k fun i hi hL => hk i hi ((hl i hi).2 hL), fun i hi hL => h.blk1 i hi ((hl i hi).1 hL)⟩

theorem Mix.start (S0 : St) (m : Nat) (D : Nat → Eff) : Mix S0 m D (fun _ => False) S0 :=
  ⟨rfl, fun _ _ => rfl, fun _ _ h => h.elim, fun _ _ => rfl, fun _ _ h => h.elim⟩

theorem Mix.step {S0 : St} {m : Nat} {D : Nat → Eff} {L : Nat → Prop} (hdist : ∀ i j, i < m → j < m → i ≠ j → (D i).1 ≠ (D j).1) (h : Mix S0 m D L s') {i : Nat} (hi : i < m) (hn : ¬ L i) (hu : UpdE s' s1 (D i).1 (D i).2.1 (D i).2.2) :
    Mix S0 m D (fun j => L j ∨ j = i) s1 := by
  have hne : ∀ j, j < m → L j → (D j).1 ≠ (D i).1 := fun j hj hL => hdist j i hj hi fun e => hn (e ▸ hL)
  refine ⟨hu.n.trans h.n, ?_, ?_, ?_, ?_⟩
  · intro t ht
    rw [hu.get t, if_neg fun e => ht i hi (.inr rfl) e.symm]
    exact h.get0 t fun j hj hL => ht j hj (.inl hL)
  · intro j hj hL
    rw [hu.get]
    by_cases e : j = i
    · subst e; rw [if_pos rfl]
    · have hL := hL.resolve_right e
      rw [if_neg (hne j hj hL)]
      exact h.get1 j hj hL
  · intro k hk
    rw [hu.blk]
    have h0 := h.blk0 k fun j hj hL => hk j hj (.inl hL)
    cases hob : (D i).2.2 with
    | none => exact h0
    | some bk =>
      simp only []
      by_cases e : k = (D i).1
      · have := hk i hi (.inr rfl) e.symm
        rw [hob] at this
        cases this
      · rw [if_neg e]; exact h0
  · intro j hj hL bk hbk
    rw [hu.blk]
    by_cases e : j = i
    · subst e
      rw [hbk]
      simp
    · have hL := hL.resolve_right e
      have h1 := h.blk1 j hj hL bk hbk
      cases hob : (D i).2.2 with
      | none => exact h1
      | some bk' => simp only []; rw [if_neg (hne j hj hL)]; exact h1

/-- What a region's checks say; operations by their place in the order ord. -/
structure Plan (C : Cfg) (ops : List Oper) (ord : List Nat) (po : List Oper) (m : Nat) (S : Nat → St) (D : Nat → Eff) : Prop where
  le : m ≤ po.length
  dst : ∀ i o, i < m → po[i]? = some o → o.dst = some (D i).1
  upd : ∀ i, i < m → UpdE (S i) (S (i + 1)) (D i).1 (D i).2.1 (D i).2.2
  fresh : ∀ i, i < m → (D i).2.2 ≠ none → (S i).blk (D i).1 = none
  cong : ∀ i o, i < m → po[i]? = some o → ∀ s', Agree ops (S i) s' o → ((D i).2.2 ≠ none → s'.blk (D i).1 = none) → ∃ s1', evG C ops s' o = some s1' ∧ UpdE s' s1' (D i).1 (D i).2.1 (D i).2.2
  dist : ∀ i j, i < m → j < m → i ≠ j → (D i).1 ≠ (D j).1
  before : ∀ (i : Nat) (o : Oper), po[i]? = some o → ∀ j ∈ edP ord o, j < i
  reads : ∀ (i j : Nat) (o p : Oper), i < m → j < m → po[i]? = some o → po[j]? = some p → (D j).1 ∈ readsOf ops o → j ∈ edP ord o ∨ i ∈ edP ord p
  last : ∀ (i : Nat) (o : Oper), m ≤ i → po[i]? = some o → ∀ j, j < i → ∀ L : Nat → Prop, (∀ e ∈ edP ord o, L e) → (∀ e p, L e → po[e]? = some p → ∀ x ∈ edP ord p, L x) →
    L j ∨ ∃ p, po[j]? = some p ∧ pureFree ops (ord.getD j 0) p = true ∧ ∀ e ∈ edP ord p, L e
  stop : ∀ o, po[m]? = some o → ∀ i, pureFree ops i o = false
  sel : ∀ (i : Nat) (o : Oper) cs b, ops[i]? = some o → o.op ≠ .select cs b

theorem Plan.chain {ops po : List Oper} {ord : List Nat} {m : Nat} {S : Nat → St} {D : Nat → Eff} (h : Plan C ops ord po m S D) : ∀ i, i ≤ m → Mix (S 0) m D (fun j => j < i) (S i) := by
  intro i
  induction i with
  | zero => intro _; exact (Mix.start (S 0) m D).congr fun i _ => by simp
  | succ i ih =>
    intro hi
    exact ((ih (by omega)).step h.dist (i := i) (by omega) (by omega) (h.upd i (by omega))).congr fun j _ => by omega

theorem Plan.agree {ops po : List Oper} {ord : List Nat} {m : Nat} {S : Nat → St} {D : Nat → Eff} (hp : Plan C ops ord po m S D) {L : Nat → Prop} (hmix : Mix (S 0) m D L s') (hr : RelAt P C.T w0 M N ρ s' a w) {i : Nat} {o : Oper} (hi : i < m) (ho : po[i]? = some o)
    (hnl : ¬ L i) (hed : ∀ j ∈ edP ord o, L j) (hcl : ∀ j p, L j → po[j]? = some p → ∀ k ∈ edP ord p, L k) : Agree ops (S i) s' o ∧ ((D i).2.2 ≠ none → s'.blk (D i).1 = none) := by
  have hch := hp.chain i (Nat.le_of_lt hi)
  have getop : ∀ j, j < m → ∃ p, po[j]? = some p := fun j hj => ⟨po[j]'(Nat.lt_of_lt_of_le hj hp.le), List.getElem?_eq_getElem _⟩
  have key : ∀ t ∈ readsOf ops o, s'.get t = (S i).get t := by
    intro t ht
    by_cases hex : ∃ j, j < m ∧ (D j).1 = t
    · obtain ⟨j, hj, rfl⟩ := hex
      obtain ⟨p, hpj⟩ := getop j hj
      rcases hp.reads i j o p hi hj ho hpj ht with he | he
      · have hLj := hed j he
        have hji := hp.before i o ho j he
        rw [hmix.get1 j hj hLj, hch.get1 j hj hji]
      · have hij := hp.before j p hpj i he
        have hnj : ¬ L j := fun hLj => hnl (hcl j p hLj hpj i he)
        rw [hmix.get0 _ fun k hk hLk e => hnj (by
              by_cases ekj : k = j
              · exact ekj ▸ hLk
              · exact absurd e (hp.dist k j hk hj ekj)),
          hch.get0 _ fun k hk hki e => by
              by_cases ekj : k = j
              · omega
              · exact absurd e (hp.dist k j hk hj ekj)]
    · have hno : ∀ k, k < m → (D k).1 ≠ t := fun k hk e => hex ⟨k, hk, e⟩
      rw [hmix.get0 t fun k hk _ => hno k hk, hch.get0 t fun k hk _ => hno k hk]
  have fresh0 : ∀ j, j < m → (D j).2.2 ≠ none → (S 0).blk (D j).1 = none := by
    intro j hj hob
    have h1 := hp.fresh j hj hob
    have h2 := (hp.chain j (Nat.le_of_lt hj)).blk0 (D j).1 fun k hk hkj e => by
      exact absurd e (hp.dist k j hk hj (by omega))
    rw [← h2]; exact h1
  refine ⟨⟨hmix.n.trans hch.n.symm, fun t ht => ⟨key t ht, ?_⟩⟩, ?_⟩
  · intro k bk hk hbk
    have hlv := hr.lv t
    rw [key t ht] at hlv
    obtain ⟨bk', hbk'⟩ := lv_blk hlv hk
    by_cases hex : ∃ j, j < m ∧ (D j).1 = k ∧ (D j).2.2 ≠ none
    · obtain ⟨j, hj, rfl, hob⟩ := hex
      obtain ⟨bj, hbj⟩ : ∃ bj, (D j).2.2 = some bj := by
        cases hh : (D j).2.2 with
        | none => exact absurd hh hob
        | some bj => exact ⟨bj, rfl⟩
      have h0 := fresh0 j hj hob
      have hji : j < i := by
        rcases Nat.lt_or_ge j i with h | h
        · exact h
        · exfalso
          have := hch.blk0 (D j).1 fun q hq hqi e => absurd e (hp.dist q j hq hj (by omega))
          rw [this, h0] at hbk
          cases hbk
      have hLj : L j := by
        refine Classical.byContradiction fun hn => ?_
        have := hmix.blk0 (D j).1 fun q hq hLq e => absurd e (hp.dist q j hq hj fun e => hn (e ▸ hLq))
        rw [this, h0] at hbk'
        cases hbk'
      have e1 := hch.blk1 j hj hji bj hbj
      rw [hbk] at e1
      injection e1 with e1
      subst e1
      exact hmix.blk1 j hj hLj bk hbj
    · have hno : ∀ j, j < m → (D j).1 = k → (D j).2.2 = none := fun j hj e => Classical.byContradiction fun hn => hex ⟨j, hj, e, hn⟩
      rw [hmix.blk0 k fun j hj _ e => hno j hj e]
      rw [hch.blk0 k fun j hj _ e => hno j hj e] at hbk
      exact hbk
  · intro hob
    rw [hmix.blk0 _ fun q hq hLq e => absurd e (hp.dist q i hq hi fun e => hnl (e ▸ hLq))]
    exact fresh0 i hi hob

theorem Mix.full {S0 : St} {m : Nat} {D : Nat → Eff} {L : Nat → Prop} {s s' : St} (h : Mix S0 m D L s) (h' : Mix S0 m D (fun j => j < m) s') (hL : ∀ i, i < m → L i) : s'.n = s.n ∧ (∀ t, s'.get t = s.get t) ∧ ∀ k, s'.blk k = s.blk k := by
  refine ⟨h'.n.trans h.n.symm, fun t => ?_, fun k => ?_⟩
  · by_cases hex : ∃ j, j < m ∧ (D j).1 = t
    · obtain ⟨j, hj, rfl⟩ := hex
      rw [h'.get1 j hj hj, h.get1 j hj (hL j hj)]
    · have hno : ∀ k, k < m → (D k).1 ≠ t := fun k hk e => hex ⟨k, hk, e⟩
      rw [h'.get0 t fun k hk _ => hno k hk, h.get0 t fun k hk _ => hno k hk]
  · by_cases hex : ∃ j, j < m ∧ (D j).1 = k ∧ (D j).2.2 ≠ none
    · obtain ⟨j, hj, rfl, hob⟩ := hex
      cases hh : (D j).2.2 with
      | none => exact absurd hh hob
      | some bj => rw [h'.blk1 j hj hj bj hh, h.blk1 j hj (hL j hj) bj hh]
    · have hno : ∀ j, j < m → (D j).1 = k → (D j).2.2 = none := fun j hj e => Classical.byContradiction fun hn => hex ⟨j, hj, e, hn⟩
      rw [h'.blk0 k fun j hj _ e => hno j hj e, h.blk0 k fun j hj _ e => hno j hj e]

theorem exists_min : ∀ (U : List Nat), U ≠ [] → ∃ i ∈ U, ∀ j ∈ U, i ≤ j := by
  intro U
  induction U with
  | nil => intro h; exact absurd rfl h
  | cons x U ih =>
    intro _
    by_cases hU : U = []
    · subst hU; exact ⟨x, by simp, fun j hj => by simp at hj; omega⟩
    · obtain ⟨i, h1, h2⟩ := ih hU
      rcases Nat.lt_or_ge i x with h | h
      · refine ⟨i, List.mem_cons_of_mem _ h1, fun j hj => ?_⟩
        rcases List.mem_cons.1 hj with rfl | hj
        · omega
        · exact h2 j hj
      · refine ⟨x, by simp, fun j hj => ?_⟩
        rcases List.mem_cons.1 hj with rfl | hj
        · omega
        · have := h2 j hj; omega

theorem mem_edges {o : Oper} {e : Edge} (h1 : e ∈ o.after) (h2 : Region.binds .any e = true) : e.on ∈ edgesOf o := by
  unfold edgesOf
  rw [List.mem_map]
  exact ⟨e, List.mem_filter.2 ⟨by simpa using h1, h2⟩, rfl⟩

theorem of_mem_edges {o : Oper} {j : Nat} (h : j ∈ edgesOf o) : ∃ e ∈ o.after, Region.binds .any e = true ∧ e.on = j := by
  unfold edgesOf at h
  rw [List.mem_map] at h
  obtain ⟨e, h1, h2⟩ := h
  obtain ⟨h3, h4⟩ := List.mem_filter.1 h1
  exact ⟨e, by simpa using h3, h4, h2⟩

/-- Where the drawing stands. -/
structure Stands (ops : Array Oper) (listed : Array Bool) (fuel : Nat) : Prop where
  size : listed.size = ops.size
  left : ∃ U : List Nat, U.Nodup ∧ U.length = fuel ∧ ∀ i, i ∈ U ↔ i < ops.size ∧ listed.getD i false = false
  closed : ∀ (i : Nat) (o : Oper), listed.getD i false = true → ops.toList[i]? = some o → ∀ j ∈ edgesOf o, listed.getD j false = true

theorem getD_both {listed : Array Bool} {i : Nat} (h : i < listed.size) (x y : Bool) : listed.getD i x = listed.getD i y := by
  simp [Array.getD_eq_getD_getElem?, h]

theorem set_getD {listed : Array Bool} {i j : Nat} (hi : i < listed.size) : (listed.setIfInBounds i true).getD j false = (decide (j = i) || listed.getD j false) := by
  by_cases e : i = j
  · subst e; simp [hi]
  · rw [getD_set_ne false e]
    have : ¬ (j = i) := fun h => e h.symm
    simp [this]

theorem Stands.step {ops : Array Oper} {listed : Array Bool} {fuel : Nat} (h : Stands ops listed (fuel + 1)) {i : Nat} (hi : i ∈ Region.ready .any ops listed) : Stands ops (listed.setIfInBounds i true) fuel := by
  obtain ⟨h0, o, ho, hall⟩ := mem_ready.1 hi
  have hlt : i < ops.size := (Array.getElem?_eq_some_iff.1 ho).1
  have hlt' : i < listed.size := h.size ▸ hlt
  obtain ⟨U, u1, u2, u3⟩ := h.left
  have hiU : i ∈ U := (u3 i).2 ⟨hlt, (getD_both hlt' false true).trans h0⟩
  refine ⟨by simp [h.size], ⟨U.erase i, u1.erase i, by rw [List.length_erase_of_mem hiU, u2]; rfl, fun j => ?_⟩, ?_⟩
  · rw [u1.mem_erase_iff, u3 j, set_getD hlt']
    by_cases e : j = i
    · simp [e]
    · simp [e]
  · intro j p hj hp k hk
    rw [set_getD hlt'] at hj ⊢
    by_cases e : j = i
    · subst e
      have : p = o := by
        rw [Array.getElem?_toList, ho] at hp
        injection hp with hp
        exact hp.symm
      subst this
      obtain ⟨e', e1, e2, e3⟩ := of_mem_edges hk
      rw [← e3, hall e' e1 e2]
      simp
    · have hj : listed.getD j false = true := by simpa [e] using hj
      rw [h.closed j p hj hp k hk]
      simp

/-- ord is an order of all operations. -/
structure Perm (n : Nat) (ord : List Nat) : Prop where
  len : ord.length = n
  to : ∀ p, p < n → ord.getD p 0 < n ∧ posOf (ord.getD p 0) ord = p
  of : ∀ i, i < n → posOf i ord < n ∧ ord.getD (posOf i ord) 0 = i

theorem pick_get {ops : List Oper} : ∀ (ord : List Nat), (∀ i ∈ ord, i < ops.length) → (pick ops ord).length = ord.length ∧ ∀ p, p < ord.length → (pick ops ord)[p]? = ops[ord.getD p 0]? := by
  intro ord
  induction ord with
  | nil => intro _; exact ⟨rfl, fun p hp => by simp at hp⟩
  | cons i r ih =>
    intro h
    have hi : i < ops.length := h i (by simp)
    obtain ⟨h1, h2⟩ := ih fun j hj => h j (by simp [hj])
    have : pick ops (i :: r) = ops[i] :: pick ops r := by
      simp only [pick]
      rw [List.getElem?_eq_getElem hi]
    rw [this]
    refine ⟨by simp [h1], fun p hp => ?_⟩
    cases p with
    | zero => simp [List.getElem?_eq_getElem hi]
    | succ p => simpa using h2 p (by simpa using hp)

theorem apartB_ok {ops : Array Oper} {x y : Oper} (h : apartB ops.toList x y = true) : x.apart ops y = true := by
  have hlooks : ∀ o : Oper, o.looksAt ops = readsOf ops.toList o := by
    intro o
    unfold Oper.looksAt readsOf tmpsOf
    congr 1
    cases hg : o.guard with
    | none => rfl
    | some gw =>
      obtain ⟨g, want⟩ := gw
      simp only [Array.getElem?_toList]
  have hc : ∀ (d : Nat) (l : List Nat), memN d l = false → l.contains d = false := by
    intro d l
    induction l with
    | nil => intro _; rfl
    | cons y l ih =>
      intro h
      simp only [memN, Bool.or_eq_false_iff] at h
      rw [List.contains_cons, ih h.2]
      have : (d == y) = false := by
        have := h.1
        cases hb : (d == y) with
        | false => rfl
        | true => rw [eq_of_beq hb, Nat.beq_refl] at this; cases this
      rw [this]; rfl
  unfold apartB at h
  unfold Oper.apart
  rw [Bool.and_eq_true] at h ⊢
  obtain ⟨h1, h2⟩ := h
  rw [hlooks, hlooks]
  constructor
  · cases hx : x.dst with
    | none => rfl
    | some d =>
      rw [hx] at h1
      simp only [Bool.and_eq_true, Bool.not_eq_true'] at h1 ⊢
      refine ⟨hc _ _ h1.1, ?_⟩
      cases hy : y.dst with
      | none => rfl
      | some u =>
        have h3 := h1.2
        unfold dstIs at h3
        rw [hy] at h3
        simp only [] at h3
        have : u ≠ d := fun e => by rw [e, Nat.beq_refl] at h3; cases h3
        simp [this]
  · cases hy : y.dst with
    | none => rfl
    | some d =>
      rw [hy] at h2
      simp only [Bool.not_eq_true'] at h2 ⊢
      exact hc _ _ h2

/-- An operation that touches nothing but slots: its value, in every world. -/
theorem pure_yield (h : RelAt P C.T w0 M N ρ s a w) {ops : Array Oper} {i : Nat} {o : Oper} (hf : pureFree ops.toList i o = true) (hev : evG C ops.toList s o = some s1) : ∃ v, Yields P ops o v a ∧ RelAt P C.T w0 M N ρ s1 (a.put o.dst v) w := by
  unfold pureFree at hf
  rw [Bool.and_eq_true, Bool.and_eq_true, Bool.and_eq_true] at hf
  obtain ⟨hg, hp, hd, _⟩ := hf
  have hg : o.guard = none := by
    cases hgo : o.guard with
    | none => rfl
    | some x => rw [hgo] at hg; cases hg
  obtain ⟨d, hd⟩ := Option.isSome_iff_exists.1 hd
  have hw : Region.wanted o (yielded ops a.tmps) = true := by simp [Region.wanted, hg]
  unfold evG at hev
  rw [hg] at hev
  simp only [] at hev
  unfold evOp at hev
  rw [hd] at hev
  simp only [] at hev
  obtain ⟨hlt, hev⟩ := cond_some hev
  have hlt : d < s.n := blt_lt hlt
  rw [hd]
  unfold pureOp at hp
  split at hp
  · rename_i x ix hop
    rw [hop] at hev
    simp only [] at hev
    unfold outK at hev
    split at hev
    · cases hev
    · rename_i b s2 hop2
      obtain ⟨hb, hev⟩ := cond_some hev
      subst hb
      injection hev with hev
      subst hev
      simp only [opR] at hop2
      split at hop2
      · rename_i vs hx
        split at hop2
        · rename_i v hv
          obtain ⟨_, rfl⟩ := putOk_inv hop2
          have hxl := h.ev x
          rw [hx] at hxl
          obtain ⟨arr, h1, h2, h3⟩ := hxl.tup_inv
          have hi : ix < arr.size := by
            rw [h2]
            rcases Nat.lt_or_ge ix vs.length with hh | hh
            · exact hh
            · rw [List.getElem?_eq_none hh] at hv; cases hv
          have hget : arr[ix]? = some (arr.getD ix undef) := by simp [hi]
          refine ⟨arr.getD ix undef, .inl ⟨hw, fun w' => ?_⟩, h.put hlt (h3 ix v hv)⟩
          simp only [execOp, hop]
          apply run_v
          simp only [Instr.extract, h1, hget]
          rfl
        · cases hop2
      · cases hop2
  · rename_i x hop
    rw [hop] at hev
    simp only [opR, putOk, outK, cond_true, Option.some.injEq] at hev
    subst hev
    refine ⟨a.eval x, .inl ⟨hw, fun w' => ?_⟩, h.put hlt (h.ev x)⟩
    simp only [execOp, hop]
    rfl
  · cases hp

theorem pure_apart {ops : Array Oper} {i : Nat} {o : Oper} (hf : pureFree ops.toList i o = true) (j : Nat) (oj : Oper) (hj : ops[j]? = some oj) (hne : j ≠ i) (hno : ∀ e ∈ oj.after, Region.binds .any e = true → e.on ≠ i) (hne2 : j ∉ edgesOf o) : o.apart ops oj = true := by
  unfold pureFree at hf
  rw [Bool.and_eq_true, Bool.and_eq_true, Bool.and_eq_true] at hf
  obtain ⟨_, _, _, hall⟩ := hf
  have h1 := allIx_spec hall (j := j) (x := oj) (by rw [Array.getElem?_toList]; exact hj)
  rw [Nat.zero_add, Bool.or_eq_true, Bool.or_eq_true, Bool.or_eq_true] at h1
  rcases h1 with h1 | h1 | h1 | h1
  · exact absurd (Nat.eq_of_beq_eq_true h1) hne
  · obtain ⟨e, e1, e2, e3⟩ := of_mem_edges (memN_mem h1)
    exact absurd e3 (hno e e1 e2)
  · exact absurd (memN_mem h1) hne2
  · exact apartB_ok h1

/-- The drawing, the quiet operations first in whatever order. -/
theorem any_sound (hT : TabOK P C.T) (hE : EqTabOK P C.T) (hO : OraOK P C.T C.mv C.ora) {ops : Array Oper} {ord : List Nat} (hperm : Perm ops.size ord) {Q : Exit → Act → World → Prop} {m : Nat} {S : Nat → St} {D : Nat → Eff} (hp : Plan C ops.toList ord (pick ops.toList ord) m S D)
    (hS : ∀ (i : Nat) (o : Oper), (pick ops.toList ord)[i]? = some o → evG C ops.toList (S i) o = some (S (i + 1))) (hQ : ∀ a' w', Rel P C.T w0 M N (S ops.size) a' w' → Q .normal a' w') (hQp : ∀ c a w, ¬ Q (.panic c) a w) :
    ∀ (fuel : Nat) (listed : Array Bool) (a : Act) (w : World), Stands ops listed fuel →
      (((∀ p, m ≤ p → p < ops.size → listed.getD (ord.getD p 0) false = false) ∧ ∃ s', Mix (S 0) m D (fun p => listed.getD (ord.getD p 0) false = true) s' ∧ Rel P C.T w0 M N s' a w) ∨
       (∃ m', m ≤ m' ∧ m' ≤ ops.size ∧ (∀ p, p < ops.size → (listed.getD (ord.getD p 0) false = true ↔ p < m')) ∧ Rel P C.T w0 M N (S m') a w)) →
      wpAny P .any ops Q fuel listed a w := by
  have hmem : ∀ i ∈ ord, i < ops.toList.length := by
    intro i hi
    obtain ⟨p, hp', rfl⟩ := List.mem_iff_getElem.1 hi
    have := (hperm.to p (by rw [← hperm.len]; exact hp')).1
    simpa [List.getD_eq_getElem?_getD, List.getElem?_eq_getElem hp'] using this
  obtain ⟨pk1, pk2⟩ := pick_get ord hmem
  have hmle : m ≤ ops.size := by have := hp.le; rw [pk1, hperm.len] at this; exact this
  -- an index's place
  have place : ∀ (i : Nat) (o : Oper), ops[i]? = some o → (pick ops.toList ord)[posOf i ord]? = some o := by
    intro i o ho
    have hlt : i < ops.size := (Array.getElem?_eq_some_iff.1 ho).1
    obtain ⟨q1, q2⟩ := hperm.of i hlt
    rw [pk2 _ (by rw [hperm.len]; exact q1), q2, Array.getElem?_toList]
    exact ho
  have back : ∀ (p : Nat) (o : Oper), (pick ops.toList ord)[p]? = some o → p < ops.size ∧ ops.toList[ord.getD p 0]? = some o := by
    intro p o ho
    have hlt : p < ord.length := by
      rcases Nat.lt_or_ge p ord.length with h | h
      · exact h
      · rw [List.getElem?_eq_none (by rw [pk1]; exact h)] at ho; cases ho
    exact ⟨by rw [← hperm.len]; exact hlt, by rw [← pk2 p hlt]; exact ho⟩
  have edge : ∀ (o : Oper) (j : Nat), j ∈ edP ord o → ∃ i ∈ edgesOf o, posOf i ord = j := by
    intro o j hj
    unfold edP at hj
    rw [List.mem_map] at hj
    obtain ⟨i, h1, h2⟩ := hj
    exact ⟨i, h1, h2⟩
  -- from the first half to the second
  have turn : ∀ (listed : Array Bool) (a : Act) (w : World), (∀ p, p < m → listed.getD (ord.getD p 0) false = true) → (∃ s', Mix (S 0) m D (fun p => listed.getD (ord.getD p 0) false = true) s' ∧ Rel P C.T w0 M N s' a w) →
      Rel P C.T w0 M N (S m) a w := by
    rintro listed a w h2 ⟨s', h3, ρ, h4⟩
    obtain ⟨e1, e2, e3⟩ := h3.full (hp.chain m (Nat.le_refl _)) h2
    exact ⟨ρ, h4.ext e1 e2 e3⟩
  intro fuel
  induction fuel with
  | zero =>
    intro listed a w hst hinv
    obtain ⟨U, u1, u2, u3⟩ := hst.left
    have hU : U = [] := List.eq_nil_of_length_eq_zero u2
    subst hU
    have hall : ∀ i, i < ops.size → listed.getD i false = true := by
      intro i hi
      cases hh : listed.getD i false with
      | true => rfl
      | false => exact absurd ((u3 i).2 ⟨hi, hh⟩) (by simp)
    refine ⟨?_, ?_⟩
    · cases hr : Region.ready .any ops listed with
      | nil => rfl
      | cons i r =>
        have hi : i ∈ Region.ready .any ops listed := by rw [hr]; simp
        obtain ⟨h0, o, ho, _⟩ := mem_ready.1 hi
        have hlt : i < ops.size := (Array.getElem?_eq_some_iff.1 ho).1
        rw [getD_both (hst.size ▸ hlt) true false, hall i hlt] at h0
        cases h0
    · rcases hinv with ⟨h1, h2⟩ | ⟨m', h1, h2, h3, h4⟩
      · have hm : m = ops.size := by
          rcases Nat.lt_or_ge m ops.size with h | h
          · have := h1 m (Nat.le_refl _) h; rw [hall _ (hperm.to m h).1] at this; cases this
          · omega
        have := turn listed a w (fun p hpm => hall _ (hperm.to p (by omega)).1) h2
        rw [hm] at this
        exact hQ _ _ this
      · have hm : m' = ops.size := by
          rcases Nat.lt_or_ge m' ops.size with h | h
          · have := (h3 m' h).1 (hall _ (hperm.to m' h).1); omega
          · omega
        rw [hm] at h4
        exact hQ _ _ h4
  | succ fuel ih =>
    intro listed a w hst hinv
    -- one that may go as soon as it can, goes
    by_cases htake : ∃ (i : Nat) (o : Oper), i ∈ Region.ready .any ops listed ∧ ops[i]? = some o ∧ pureFree ops.toList i o = true ∧ (posOf i ord < m ∨ ∀ p, p < posOf i ord → listed.getD (ord.getD p 0) false = true)
    · obtain ⟨i, o, hi, ho, hpf, hpos⟩ := htake
      obtain ⟨h0, o', ho', hall⟩ := mem_ready.1 hi
      have : o' = o := by rw [ho] at ho'; injection ho' with h; exact h.symm
      subst this
      have hlt : i < ops.size := (Array.getElem?_eq_some_iff.1 ho).1
      have hlt' : i < listed.size := hst.size ▸ hlt
      have hun : listed.getD i false = false := (getD_both hlt' false true).trans h0
      obtain ⟨hq1, hq2⟩ := hperm.of i hlt
      have hol := place i o' ho
      have hunp : listed.getD (ord.getD (posOf i ord) 0) false = false := by rw [hq2]; exact hun
      have hsame : ∀ p, p < ops.size → (ord.getD p 0 = i ↔ p = posOf i ord) := fun p hps => ⟨fun e => by rw [← e, (hperm.to p hps).2], fun e => by rw [e, hq2]⟩
      have hset : ∀ p, p < ops.size → ((listed.setIfInBounds i true).getD (ord.getD p 0) false = true ↔ listed.getD (ord.getD p 0) false = true ∨ p = posOf i ord) := by
        intro p hps
        rw [set_getD hlt']
        simp only [Bool.or_eq_true, decide_eq_true_eq]
        rw [hsame p hps]
        exact Or.comm
      have hed : ∀ j ∈ edP ord o', listed.getD (ord.getD j 0) false = true := by
        intro j hj
        obtain ⟨x, hx, rfl⟩ := edge o' j hj
        obtain ⟨e, e1, e2, e3⟩ := of_mem_edges hx
        have hl := hall e e1 e2
        rw [e3] at hl
        have hxlt : x < ops.size := by
          rcases Nat.lt_or_ge x listed.size with h | h
          · rw [← hst.size]; exact h
          · simp [Array.getD_eq_getD_getElem?, Array.getElem?_eq_none h] at hl
        rw [(hperm.of x hxlt).2]
        exact hl
      have hcl : ∀ (j : Nat) (p : Oper), listed.getD (ord.getD j 0) false = true → (pick ops.toList ord)[j]? = some p → ∀ k ∈ edP ord p, listed.getD (ord.getD k 0) false = true := by
        intro j p hj hpj k hk
        obtain ⟨_, hb2⟩ := back j p hpj
        obtain ⟨x, hx, rfl⟩ := edge p k hk
        have hl := hst.closed _ p hj hb2 x hx
        have hxlt : x < ops.size := by
          rcases Nat.lt_or_ge x listed.size with h | h
          · rw [← hst.size]; exact h
          · simp [Array.getD_eq_getD_getElem?, Array.getElem?_eq_none h] at hl
        rw [(hperm.of x hxlt).2]
        exact hl
      have go : ∀ (v : Value), Yields P ops o' v a → wpAny P .any ops Q fuel (listed.setIfInBounds i true) (a.put o'.dst v) w → wpAny P .any ops Q (fuel + 1) listed a w := fun v hy hrest =>
        wpAny_first ho (fun j oj cs b hj => hp.sel j oj cs b (by rw [Array.getElem?_toList]; exact hj)) (fun c a w h => absurd h (hQp c _ w)) fuel listed a w (fun j oj hj hne hunj hno => pure_apart hpf j oj hj hne hno fun hmemE => by
          obtain ⟨e, e1, e2, e3⟩ := of_mem_edges hmemE
          have hl := hall e e1 e2
          rw [e3] at hl
          have hjlt : j < listed.size := hst.size ▸ (Array.getElem?_eq_some_iff.1 hj).1
          rw [getD_both hjlt true false, hl] at hunj
          cases hunj) hi hy hrest
      rcases hinv with ⟨h1, h2⟩ | ⟨m', h1, h2, h3, h4⟩
      · have him : posOf i ord < m := by
          rcases hpos with h | h
          · exact h
          · rcases Nat.lt_or_ge (posOf i ord) m with h' | h'
            · exact h'
            · exfalso
              rcases Nat.lt_or_ge m (posOf i ord) with h'' | h''
              · have := h m h''; rw [h1 m (Nat.le_refl _) (by omega)] at this; cases this
              · have hm : posOf i ord = m := by omega
                rw [hm] at hol
                have := hp.stop o' hol i
                rw [hpf] at this
                cases this
        obtain ⟨s', hmix, ρ, hr⟩ := h2
        obtain ⟨g1, g2⟩ := hp.agree hmix hr him hol (by rw [hunp]; simp) hed hcl
        obtain ⟨s1', q1, q2⟩ := hp.cong _ o' him hol s' g1 g2
        obtain ⟨v, hy, hr'⟩ := pure_yield hr hpf q1
        refine go v hy (ih _ _ w (hst.step hi) (.inl ⟨fun j hj hjs => ?_, s1', ?_, ρ, hr'⟩))
        · cases hh : (listed.setIfInBounds i true).getD (ord.getD j 0) false with
          | false => rfl
          | true =>
            rcases (hset j hjs).1 hh with h | h
            · rw [h1 j hj hjs] at h; cases h
            · omega
        · refine (hmix.step hp.dist him (by rw [hunp]; simp) q2).congr fun j hj => ?_
          exact hset j (by omega)
      · have him : posOf i ord = m' := by
          have g1 : ¬ posOf i ord < m' := fun h => by rw [(h3 _ hq1).2 h] at hunp; cases hunp
          rcases Nat.lt_or_ge m' (posOf i ord) with h | h
          · rcases hpos with h' | h'
            · omega
            · have := h' m' h; have := (h3 m' (by omega)).1 this; omega
          · omega
        obtain ⟨ρ, h4⟩ := h4
        have hSi := hS (posOf i ord) o' hol
        rw [him] at hSi
        obtain ⟨v, hy, hr'⟩ := pure_yield h4 hpf hSi
        refine go v hy (ih _ _ w (hst.step hi) (.inr ⟨m' + 1, by omega, by omega, fun p hps => ?_, ρ, hr'⟩))
        rw [hset p hps, h3 p hps, him]
        omega
    refine ⟨?_, ?_⟩
    · intro hnil
      exfalso
      obtain ⟨U, u1, u2, u3⟩ := hst.left
      have hne : U ≠ [] := by intro e; subst e; simp at u2
      obtain ⟨pm, hpm, hmin⟩ := exists_min (U.map fun i => posOf i ord) (by simpa using hne)
      obtain ⟨i, hiU, rfl⟩ := List.mem_map.1 hpm
      obtain ⟨hlt, hun⟩ := (u3 i).1 hiU
      have ho : ops[i]? = some ops[i] := Array.getElem?_eq_getElem hlt
      have : i ∈ Region.ready .any ops listed := by
        refine mem_ready.2 ⟨(getD_both (hst.size ▸ hlt) true false).trans hun, ops[i], ho, fun e he hb => ?_⟩
        have hmemE := mem_edges he hb
        have hj := hp.before _ ops[i] (place i _ ho) (posOf e.on ord) (List.mem_map_of_mem hmemE)
        cases hh : listed.getD e.on false with
        | true => rfl
        | false =>
          rcases Nat.lt_or_ge e.on ops.size with hle | hge
          · have := hmin (posOf e.on ord) (List.mem_map_of_mem ((u3 e.on).2 ⟨hle, hh⟩))
            omega
          · exfalso
            have h1 := hperm.of i hlt
            -- an edge that leads nowhere has no place below
            have hq := hperm.to (posOf e.on ord) (by omega)
            have : ∀ (l : List Nat) (x : Nat), x ∉ l → posOf x l = l.length := by
              intro l
              induction l with
              | nil => intro x _; rfl
              | cons y l ih =>
                intro x hx
                simp only [posOf]
                have hne : Nat.beq y x = false := beq_ne fun e => hx (by simp [e])
                rw [hne]
                simp only [cond_false, List.length_cons]
                rw [ih x fun h => hx (by simp [h])]
            have hnot : e.on ∉ ord := fun h => by have := hmem _ h; simp at this; omega
            rw [this ord e.on hnot, hperm.len] at hj
            omega
      rw [hnil] at this
      simp at this
    · intro i hi
      have hst' := hst.step hi
      obtain ⟨h0, o, ho, hall⟩ := mem_ready.1 hi
      have hlt : i < ops.size := (Array.getElem?_eq_some_iff.1 ho).1
      have hlt' : i < listed.size := hst.size ▸ hlt
      have hun : listed.getD i false = false := (getD_both hlt' false true).trans h0
      obtain ⟨hq1, hq2⟩ := hperm.of i hlt
      have hol := place i o ho
      have hsame : ∀ p, p < ops.size → (ord.getD p 0 = i ↔ p = posOf i ord) := fun p hps => ⟨fun e => by rw [← e, (hperm.to p hps).2], fun e => by rw [e, hq2]⟩
      have hset : ∀ p, p < ops.size → ((listed.setIfInBounds i true).getD (ord.getD p 0) false = true ↔ listed.getD (ord.getD p 0) false = true ∨ p = posOf i ord) := by
        intro p hps
        rw [set_getD hlt']
        simp only [Bool.or_eq_true, decide_eq_true_eq]
        rw [hsame p hps]
        exact Or.comm
      have hunp : listed.getD (ord.getD (posOf i ord) 0) false = false := by rw [hq2]; exact hun
      have hed : ∀ j ∈ edP ord o, listed.getD (ord.getD j 0) false = true := by
        intro j hj
        obtain ⟨x, hx, rfl⟩ := edge o j hj
        obtain ⟨e, e1, e2, e3⟩ := of_mem_edges hx
        have hl := hall e e1 e2
        rw [e3] at hl
        have hxlt : x < ops.size := by
          rcases Nat.lt_or_ge x listed.size with h | h
          · rw [← hst.size]; exact h
          · simp [Array.getD_eq_getD_getElem?, Array.getElem?_eq_none h] at hl
        rw [(hperm.of x hxlt).2]
        exact hl
      have hcl : ∀ (j : Nat) (p : Oper), listed.getD (ord.getD j 0) false = true → (pick ops.toList ord)[j]? = some p → ∀ k ∈ edP ord p, listed.getD (ord.getD k 0) false = true := by
        intro j p hj hpj k hk
        obtain ⟨_, hb2⟩ := back j p hpj
        obtain ⟨x, hx, rfl⟩ := edge p k hk
        have hl := hst.closed _ p hj hb2 x hx
        have hxlt : x < ops.size := by
          rcases Nat.lt_or_ge x listed.size with h | h
          · rw [← hst.size]; exact h
          · simp [Array.getD_eq_getD_getElem?, Array.getElem?_eq_none h] at hl
        rw [(hperm.of x hxlt).2]
        exact hl
      -- what waits for nothing more is ready
      have waits : ∀ (q : Nat) (p : Oper), q < ops.size → (pick ops.toList ord)[q]? = some p → ¬ listed.getD (ord.getD q 0) false = true → (∀ e ∈ edP ord p, listed.getD (ord.getD e 0) false = true) → ord.getD q 0 ∈ Region.ready .any ops listed := by
        intro q p hq hpq hn hpe
        obtain ⟨_, hb2⟩ := back q p hpq
        rw [Array.getElem?_toList] at hb2
        have hqlt : ord.getD q 0 < ops.size := (hperm.to q hq).1
        refine mem_ready.2 ⟨?_, p, hb2, fun e he hb => ?_⟩
        · rw [getD_both (hst.size ▸ hqlt) true false]
          cases hh : listed.getD (ord.getD q 0) false with
          | false => rfl
          | true => exact absurd hh hn
        · have h1 := hpe (posOf e.on ord) (List.mem_map_of_mem (mem_edges he hb))
          have hpos := hp.before q p hpq (posOf e.on ord) (List.mem_map_of_mem (mem_edges he hb))
          rcases Nat.lt_or_ge e.on ops.size with hle | hge
          · rw [(hperm.of e.on hle).2] at h1; exact h1
          · exfalso
            have hnot : e.on ∉ ord := fun h => by have := hmem _ h; simp at this; omega
            have : ∀ (l : List Nat) (x : Nat), x ∉ l → posOf x l = l.length := by
              intro l
              induction l with
              | nil => intro x _; rfl
              | cons y l ih =>
                intro x hx
                simp only [posOf]
                have hne : Nat.beq y x = false := beq_ne fun e => hx (by simp [e])
                rw [hne]
                simp only [cond_false, List.length_cons]
                rw [ih x fun h => hx (by simp [h])]
            rw [this ord e.on hnot, hperm.len] at hpos
            omega
      -- the second half
      have second : ∀ m', m ≤ m' → m' ≤ ops.size → (∀ p, p < ops.size → (listed.getD (ord.getD p 0) false = true ↔ p < m')) → m ≤ posOf i ord → Rel P C.T w0 M N (S m') a w → wpOp P ops Q i (wpAny P .any ops Q fuel (listed.setIfInBounds i true)) a w := by
        intro m' h1 h2 h3 hmi h4
        have hbelow := fun j hj => hp.last (posOf i ord) o hmi hol j hj (fun j => listed.getD (ord.getD j 0) false = true) hed hcl
        have him : posOf i ord = m' := by
          have g1 : ¬ posOf i ord < m' := fun h => by rw [(h3 _ hq1).2 h] at hunp; cases hunp
          rcases Nat.lt_or_ge m' (posOf i ord) with h | h
          · exfalso
            rcases hbelow m' h with hL | ⟨p, hpo, hpf, hpe⟩
            · have := (h3 m' (by omega)).1 hL
              omega
            · refine htake ⟨ord.getD m' 0, p, waits m' p (by omega) hpo (fun hL => by have := (h3 m' (by omega)).1 hL; omega) hpe, ?_, hpf, .inr ?_⟩
              · have := (back m' p hpo).2; rw [Array.getElem?_toList] at this; exact this
              · intro q hq
                rw [(hperm.to m' (by omega)).2] at hq
                exact (h3 q (by omega)).2 hq
          · omega
        obtain ⟨ρ, h4⟩ := h4
        have hSi := hS (posOf i ord) o hol
        rw [him] at hSi
        refine evG_sound hT hE hO h4 ho hSi fun a' w' hr => ?_
        refine ih _ a' w' hst' (.inr ⟨m' + 1, by omega, by omega, fun p hps => ?_, hr⟩)
        rw [hset p hps, h3 p hps, him]
        omega
      rcases hinv with ⟨h1, h2⟩ | ⟨m', h1, h2, h3, h4⟩
      · rcases Nat.lt_or_ge (posOf i ord) m with him | him
        · obtain ⟨s', hmix, ρ, hr⟩ := h2
          obtain ⟨g1, g2⟩ := hp.agree hmix hr him hol (by rw [hunp]; simp) hed hcl
          obtain ⟨s1', q1, q2⟩ := hp.cong _ o him hol s' g1 g2
          refine evG_sound hT hE hO hr ho q1 fun a' w' hr' => ?_
          refine ih _ a' w' hst' (.inl ⟨fun j hj hjs => ?_, s1', ?_, hr'⟩)
          · cases hh : (listed.setIfInBounds i true).getD (ord.getD j 0) false with
            | false => rfl
            | true =>
              rcases (hset j hjs).1 hh with h | h
              · rw [h1 j hj hjs] at h; cases h
              · omega
          · refine (hmix.step hp.dist him (by rw [hunp]; simp) q2).congr fun j hj => ?_
            exact hset j (by omega)
        · have hbelow := fun j hj => hp.last (posOf i ord) o him hol j hj (fun j => listed.getD (ord.getD j 0) false = true) hed hcl
          have hfull : ∀ j, j < m → listed.getD (ord.getD j 0) false = true := fun j hj => by
            rcases hbelow j (by omega) with hL | ⟨p, hpo, hpf, hpe⟩
            · exact hL
            · refine Classical.byContradiction fun hn => htake ⟨ord.getD j 0, p, waits j p (by omega) hpo hn hpe, ?_, hpf, .inl ?_⟩
              · have := (back j p hpo).2; rw [Array.getElem?_toList] at this; exact this
              · rw [(hperm.to j (by omega)).2]; exact hj
          refine second m (Nat.le_refl _) hmle (fun j hjs => ⟨fun hj => ?_, hfull j⟩) him (turn listed a w hfull h2)
          rcases Nat.lt_or_ge j m with h | h
          · exact h
          · rw [h1 j h hjs] at hj; cases hj
      · have hmi : m ≤ posOf i ord := by
          rcases Nat.lt_or_ge (posOf i ord) m with h | h
          · have := (h3 _ hq1).2 (by omega); rw [this] at hunp; cases hunp
          · exact h
        exact second m' h1 h2 h3 hmi h4

theorem draw_sound (hT : TabOK P C.T) (hE : EqTabOK P C.T) (hO : OraOK P C.T C.mv C.ora) (hN : OraNat C.ora) (hm : P.follows .mixedOrders = true) {id : Nat} {ops : Array Oper} {ord : List Nat} {R : Type} {K : St → Option R} {r : R} {Q : Exit → Act → World → Prop}
    (hQ : ∀ s' a' w', Rel P C.T w0 M N s' a' w' → K s' = some r → Q .normal a' w') (hQp : ∀ c a w, ¬ Q (.panic c) a w) (hd : drawOK C.mv C.T ops.toList ord = true) (h : Rel P C.T w0 M N s a w) (hev : evOps C ops.toList (pick ops.toList ord) s K = some r) : (Code.region id ops true).wp P Q a w := by
  obtain ⟨S, hS0, hS, hSn⟩ := evOps_chain hN (pick ops.toList ord) s hev
  unfold drawOK at hd
  simp only [] at hd
  rw [Bool.and_eq_true, Bool.and_eq_true, Bool.and_eq_true, Bool.and_eq_true, Bool.and_eq_true, Bool.and_eq_true, Bool.and_eq_true] at hd
  obtain ⟨⟨d01, d02, d03⟩, d1, d2, d3, d4, d5⟩ := hd
  have hlen : ord.length = ops.size := by have := Nat.eq_of_beq_eq_true d01; simpa using this
  have hperm : Perm ops.size ord := by
    refine ⟨hlen, fun p hps => ?_, fun i hi => ?_⟩
    · have hpo : p < ord.length := by omega
      have h1 := allIx_spec d02 (List.getElem?_eq_getElem hpo)
      rw [Nat.zero_add, Bool.and_eq_true] at h1
      have hg : ord.getD p 0 = ord[p] := by simp [List.getD_eq_getElem?_getD, List.getElem?_eq_getElem hpo]
      rw [hg]
      exact ⟨by have := blt_lt h1.1; simpa using this, Nat.eq_of_beq_eq_true h1.2⟩
    · have h1 := allBelow_spec d03 i (by simpa using hi)
      rw [Bool.and_eq_true] at h1
      exact ⟨by have := blt_lt h1.1; omega, Nat.eq_of_beq_eq_true h1.2⟩
  generalize hpo : pick ops.toList ord = po at *
  let m := quietLen C.mv C.T po
  have hml : m ≤ po.length := quietLen_le _
  have htake : ∀ (i : Nat) (o : Oper), i < m → po[i]? = some o → (po.take m)[i]? = some o := fun i o hi ho => by rw [List.getElem?_take_of_lt hi]; exact ho
  have hex : ∀ i : Nat, ∃ e : Eff, i < m → ∃ o, po[i]? = some o ∧ o.dst = some e.1 ∧ UpdE (S i) (S (i + 1)) e.1 e.2.1 e.2.2 ∧ (e.2.2 ≠ none → (S i).blk e.1 = none) ∧
      ∀ s', Agree ops.toList (S i) s' o → (e.2.2 ≠ none → s'.blk e.1 = none) → ∃ s1', evG C ops.toList s' o = some s1' ∧ UpdE s' s1' e.1 e.2.1 e.2.2 := by
    intro i
    by_cases hi : i < m
    · obtain ⟨o, ho, hq, dd, hdst⟩ := quietLen_spec hi
      obtain ⟨v, ob, g1, g2, g3⟩ := evG_QR hN hq hdst (hS i o ho)
      exact ⟨(dd, v, ob), fun _ => ⟨o, ho, hdst, g1, g2, g3⟩⟩
    · exact ⟨(0, .undef, none), fun h => absurd h hi⟩
  obtain ⟨D, hD⟩ := Classical.axiomOfChoice hex
  have same : ∀ {i : Nat} {o o' : Oper}, po[i]? = some o → po[i]? = some o' → o = o' := fun h1 h2 => by rw [h1] at h2; injection h2
  have plan : Plan C ops.toList ord po m S D := by
    refine ⟨hml, ?_, ?_, ?_, ?_, ?_, ?_, ?_, ?_, ?_, ?_⟩
    · intro i o hi ho
      obtain ⟨o', g1, g2, _⟩ := hD i hi
      rw [same ho g1]; exact g2
    · intro i hi
      obtain ⟨o', _, _, g3, _⟩ := hD i hi
      exact g3
    · intro i hi
      obtain ⟨o', _, _, _, g4, _⟩ := hD i hi
      exact g4
    · intro i o hi ho
      obtain ⟨o', g1, _, _, _, g5⟩ := hD i hi
      rw [same ho g1]; exact g5
    · intro i j hi hj hij e
      obtain ⟨o, g1, g2, _⟩ := hD i hi
      obtain ⟨p, q1, q2, _⟩ := hD j hj
      have h1 := allIx_spec d3 (htake i o hi g1)
      have h2 := allIx_spec h1 (htake j p hj q1)
      simp only [Nat.zero_add, g2, dstIs, q2, Bool.or_eq_true] at h2
      rcases h2 with h2 | h2
      · exact hij (Nat.eq_of_beq_eq_true h2)
      · rw [e, Nat.beq_refl] at h2; cases h2
    · intro i o ho j hj
      have h1 := allIx_spec d1 ho
      rw [List.all_eq_true] at h1
      have := h1 j hj
      rw [Nat.zero_add] at this
      exact blt_lt this
    · intro i j o p hi hj ho hpj ht
      have h1 := allIx_spec d2 (htake i o hi ho)
      rw [List.all_eq_true] at h1
      have h2 := allIx_spec (h1 _ ht) (htake j p hj hpj)
      obtain ⟨p', q1, q2, _⟩ := hD j hj
      have := same hpj q1
      subst this
      simp only [Nat.zero_add, dstIs, q2, Bool.or_eq_true, Nat.beq_refl, Bool.not_true] at h2
      rcases h2 with h2 | h2 | h2
      · cases h2
      · exact .inl (memN_mem h2)
      · exact .inr (memN_mem h2)
    · intro i o hi ho j hj L hL hcl
      have h1 := allIx_spec d4 ho
      simp only [Nat.zero_add] at h1
      rw [Bool.or_eq_true] at h1
      rcases h1 with h1 | h1
      · have := blt_lt h1; have : m = quietLen C.mv C.T po := rfl; omega
      · have h2 := allBelow_spec h1 j hj
        have ancn : ∀ (n : Nat) (o : Oper), (∀ j, j ∈ edP ord o → L j) → ∀ j, ancN po ord n o j = true → L j := by
          intro n
          induction n with
          | zero => intro o hL j h2; exact hL j (memN_mem h2)
          | succ n ih =>
            intro o hL j h2
            unfold ancN at h2
            rw [Bool.or_eq_true] at h2
            rcases h2 with h2 | h2
            · exact hL j (memN_mem h2)
            · rw [List.any_eq_true] at h2
              obtain ⟨e, he, h3⟩ := h2
              rw [Bool.and_eq_true] at h3
              replace h3 := h3.2
              split at h3
              · rename_i p hpe
                exact ih p (hcl e p (hL e he) hpe) j h3
              · cases h3
        have anc : ∀ j, ancB po ord o j = true → L j := ancn 10 o hL
        rw [Bool.or_eq_true] at h2
        rcases h2 with h2 | h2
        · exact .inl (anc j h2)
        · right
          unfold lateB at h2
          split at h2
          · rename_i p hpe
            rw [Bool.and_eq_true, List.all_eq_true] at h2
            exact ⟨p, hpe, h2.1, fun e he => anc e (h2.2 e he)⟩
          · cases h2
    · intro o ho i
      cases hpf : pureFree ops.toList i o with
      | false => rfl
      | true =>
        exfalso
        unfold pureFree at hpf
        rw [Bool.and_eq_true, Bool.and_eq_true, Bool.and_eq_true] at hpf
        obtain ⟨_, hpo', hds, _⟩ := hpf
        have hq : quietOp C.mv C.T o.op = true := by
          unfold pureOp at hpo'
          split at hpo'
          · rename_i hop; rw [hop]; rfl
          · rename_i hop; rw [hop]; rfl
          · cases hpo'
        have key : ∀ (l : List Oper), l[quietLen C.mv C.T l]? = some o → False := by
          intro l
          induction l with
          | nil => intro h; simp at h
          | cons y l ih =>
            intro h
            simp only [quietLen] at h
            cases hc : (quietOp C.mv C.T y.op && y.dst.isSome) with
            | true => rw [hc] at h; simp only [cond_true] at h; exact ih (by simpa using h)
            | false =>
              rw [hc] at h
              simp at h
              subst h
              rw [hq, hds] at hc
              cases hc
        exact key po ho
    · intro i o cs b ho hop
      have h1 := allIx_spec d5 ho
      unfold notSelect at h1
      rw [hop] at h1
      cases h1
  have hmem : ∀ i ∈ ord, i < ops.toList.length := by
    intro i hi
    obtain ⟨p, hp', rfl⟩ := List.mem_iff_getElem.1 hi
    have := (hperm.to p (by rw [← hperm.len]; exact hp')).1
    simpa [List.getD_eq_getElem?_getD, List.getElem?_eq_getElem hp'] using this
  have hpl : po.length = ops.size := by rw [← hpo, (pick_get ord hmem).1, hlen]
  subst hpo
  refine wp_region_any hm (any_sound hT hE hO hperm plan hS (fun a' w' hr => hQ _ _ _ hr (by rw [hpl] at hSn; exact hSn)) hQp ops.size _ a _ ?_ ?_)
  · refine ⟨by simp, ⟨List.range ops.size, List.nodup_range, by simp, fun i => ?_⟩, ?_⟩
    · simp [Array.getD_eq_getD_getElem?, Array.getElem?_replicate]
      intro hi
      simp [hi]
    · intro i o hi
      have : (Array.replicate ops.size false).getD i false = false := by
        simp [Array.getD_eq_getD_getElem?, Array.getElem?_replicate]
        split <;> rfl
      rw [this] at hi
      cases hi
  · have hfalse : ∀ i, (Array.replicate ops.size false).getD i false = false := fun i => by
      simp [Array.getD_eq_getD_getElem?, Array.getElem?_replicate]
      split <;> rfl
    refine .inl ⟨fun i _ _ => hfalse _, S 0, (Mix.start (S 0) m D).congr fun i _ => by rw [hfalse]; simp, ?_⟩
    rw [hS0]
    obtain ⟨ρ, h⟩ := h
    exact ⟨ρ, h.below (Below.drew (Below.refl _ _))⟩

end Go.Ev
end

