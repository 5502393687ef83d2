/- Plain laws: what the turning functions give back. -/
import Derived.Test.YtkblhnedillknaaSh
import Derived.KernelRfl
set_option linter.unusedVariables false
set_option linter.unusedSimpArgs false
namespace Go.Proofs.Ytkblhnedillknaa.Tt
open Go.Ev Go

set_option maxRecDepth 100000

theorem toByteA10_eq (n : Nat) (a : List Int) : laws_toByteA10 (n + 11) a = some (rds a 0 0 10) := by kernel_rfl

theorem toByteA10A10_eq (n : Nat) (a : List Int) : laws_toByteA10A10 (n + 11) a = some (rds (win a 0 10) 0 0 10 ++ (rds (win a 10 10) 0 0 10 ++ (rds (win a 20 10) 0 0 10 ++ (rds (win a 30 10) 0 0 10 ++ (rds (win a 40 10) 0 0 10 ++ (rds (win a 50 10) 0 0 10 ++ (rds (win a 60 10) 0 0 10 ++ (rds (win a 70 10) 0 0 10 ++ (rds (win a 80 10) 0 0 10 ++ rds (win a 90 10) 0 0 10))))))))) := by kernel_rfl

theorem rds_win (a : List Int) (off : Nat) : rds (win a off 10) 0 0 10 = rds a off 0 10 := by
  have h : ∀ (n j : Nat), j + n ≤ 10 → rds (win a off 10) 0 j n = rds a off j n := by
    intro n
    induction n with
    | zero => intro j _; rfl
    | succ n ih =>
      intro j hj
      simp only [rds]
      rw [ih (j + 1) (by omega), rd_win _ _ _ _ (by omega), Nat.zero_add]
  exact h 10 0 (by omega)

theorem rds_append (a : List Int) (off : Nat) : ∀ (n m j : Nat), rds a off j n ++ rds a off (j + n) m = rds a off j (n + m) := by
  intro n
  induction n with
  | zero => intro m j; simp [rds]
  | succ n ih =>
    intro m j
    have e : n + 1 + m = (n + m) + 1 := by omega
    rw [e]
    simp only [rds, List.cons_append]
    rw [← ih m (j + 1)]
    have : j + 1 + n = j + (n + 1) := by omega
    rw [this]

theorem rds_shift (a : List Int) : ∀ (n off j : Nat), rds a off j n = rds a 0 (off + j) n := by
  intro n
  induction n with
  | zero => intro off j; rfl
  | succ n ih =>
    intro off j
    simp only [rds, Nat.zero_add]
    rw [ih off (j + 1), Nat.add_assoc]

theorem toByteA10A10_id (n : Nat) (a : List Int) (h : a.length = 100) : laws_toByteA10A10 (n + 11) a = some a := by
  rw [toByteA10A10_eq]
  have e : ∀ off, rds (win a off 10) 0 0 10 = rds a 0 off 10 := fun off => by rw [rds_win, rds_shift]; rfl
  rw [e 0, e 10, e 20, e 30, e 40, e 50, e 60, e 70, e 80, e 90]
  rw [rds_append a 0 10 10 80, rds_append a 0 10 20 70, rds_append a 0 10 30 60, rds_append a 0 10 40 50, rds_append a 0 10 50 40, rds_append a 0 10 60 30, rds_append a 0 10 70 20, rds_append a 0 10 80 10, rds_append a 0 10 90 0]
  rw [rds_all a 100 h]

theorem toLawn_id (n : Nat) (a : List Int) (h : a.length = 102) : laws_toLawn (n + 11) a = some a := by
  unfold laws_toLawn
  rw [toByteA10A10_id n (win a 2 100) (win_length _ _ _ (by omega))]
  simp only [Option.bind_some]
  congr 1
  show List.take 2 (List.set (List.set (List.replicate 102 0) 0 (rd a 0)) 1 (rd a 1)) ++ (win a 2 100 ++ List.drop 102 (List.set (List.set (List.replicate 102 0) 0 (rd a 0)) 1 (rd a 1))) = a
  have e1 : List.take 2 (List.set (List.set (List.replicate 102 0) 0 (rd a 0)) 1 (rd a 1)) = [rd a 0, rd a 1] := rfl
  have e2 : List.drop 102 (List.set (List.set (List.replicate 102 0) 0 (rd a 0)) 1 (rd a 1)) = ([] : List Int) := List.drop_eq_nil_of_le (by simp)
  rw [e1, e2, List.append_nil]
  match a, h with
  | x :: y :: r, h =>
    have hr : r.length = 100 := by simpa using h
    show x :: y :: win (x :: y :: r) 2 100 = x :: y :: r
    have : win (x :: y :: r) 2 100 = r := by
      unfold win
      simp only [List.drop_succ_cons, List.drop_zero]
      exact List.take_of_length_le (by omega)
    rw [this]

end Go.Proofs.Ytkblhnedillknaa.Tt
