/- The functions in plain Lean. -/
import Derived.Test.YtmpcninebooaiaaE6
import Derived.Lib.Bytealg
set_option linter.unusedVariables false
set_option linter.unusedSimpArgs false
set_option linter.unusedVariables false
namespace Go.Proofs.Ytmpcninebooaiaa.Tt
open Go.Ev Go

def laws_toByteA10_s0 {R : Type} (k : Nat) (K1 : (List Int) → (List Int) → Option R) (rec : Int → (List Int) → (List Int) → (List Int) → Option R) (h1 : Int) (h2 : List Int) (h3 : List Int) (h4 : List Int) : Option R :=
  cond (decide (h1 < 10))
    (cond ((decide (0 ≤ h1)) && (decide (h1 < 10)))
      (cond ((decide (0 ≤ h1)) && (decide (h1 < 10)))
        (rec (IntKind.wrap .i64 (h1 + 1)) h2 h3 (List.set h4 (0 + h1.toNat * 1) (rd h2 (0 + h1.toNat * 1))))
        none)
      none)
    (K1 h3 h4)

def laws_toByteA10_l0 {R : Type} (k : Nat) (K1 : (List Int) → (List Int) → Option R) (h1 : Int) (h2 : List Int) (h3 : List Int) (h4 : List Int) : Option R :=
  loopF (fun (rec : Int × (List Int) × (List Int) × (List Int) → Option R) (p : Int × (List Int) × (List Int) × (List Int)) => laws_toByteA10_s0 k K1 (fun h1 h2 h3 h4 => rec (h1, h2, h3, h4)) p.1 p.2.1 p.2.2.1 p.2.2.2) k (h1, h2, h3, h4)

def laws_toByteA10 (k : Nat) (a1 : List Int) : Option ((List Int)) :=
  laws_toByteA10_l0 k
    (fun y1 y2 =>
      some y2)
    0 a1 [0, 0, 0, 0, 0, 0, 0, 0, 0, 0] [0, 0, 0, 0, 0, 0, 0, 0, 0, 0]

def laws_toByteA10A10_s0 {R : Type} (k : Nat) (K1 : (List Int) → (List Int) → Option R) (rec : Int → (List Int) → (List Int) → (List Int) → Option R) (h1 : Int) (h2 : List Int) (h3 : List Int) (h4 : List Int) : Option R :=
  cond (decide (h1 < 10))
    (cond ((decide (0 ≤ h1)) && (decide (h1 < 10)))
      (Option.bind (laws_toByteA10 k (win h2 (0 + h1.toNat * 10) 10)) fun x1 =>
        cond ((decide (0 ≤ h1)) && (decide (h1 < 10)))
          (rec (IntKind.wrap .i64 (h1 + 1)) h2 h3 (setWin h4 (0 + h1.toNat * 10) 10 x1))
          none)
      none)
    (K1 h3 h4)

def laws_toByteA10A10_l0 {R : Type} (k : Nat) (K1 : (List Int) → (List Int) → Option R) (h1 : Int) (h2 : List Int) (h3 : List Int) (h4 : List Int) : Option R :=
  loopF (fun (rec : Int × (List Int) × (List Int) × (List Int) → Option R) (p : Int × (List Int) × (List Int) × (List Int)) => laws_toByteA10A10_s0 k K1 (fun h1 h2 h3 h4 => rec (h1, h2, h3, h4)) p.1 p.2.1 p.2.2.1 p.2.2.2) k (h1, h2, h3, h4)

def laws_toByteA10A10 (k : Nat) (a1 : List Int) : Option ((List Int)) :=
  laws_toByteA10A10_l0 k
    (fun y1 y2 =>
      some y2)
    0 a1 (List.replicate 100 0) (List.replicate 100 0)

def laws_toLawn (k : Nat) (a1 : List Int) : Option ((List Int)) :=
  Option.bind (laws_toByteA10A10 k (win a1 2 100)) fun x1 =>
    some (setWin (List.set (List.set (List.replicate 102 0) 0 (rd a1 0)) 1 (rd a1 1)) 2 100 x1)

def spec_l00In (k : Nat) (a1 : Int) (a2 : Int) (a3 : Int) : Option (Bool) :=
  cond (decide (a1 ≥ a2))
    (some (decide (a1 ≤ a3)))
    (some false)

def spec_l01Side (k : Nat) (a1 : Int) : Option (Bool) :=
  Option.bind (spec_l00In k a1 1 10) fun x1 =>
    some x1

def spec_l01Kind (k : Nat) (a1 : Int) : Option (Bool) :=
  Option.bind (spec_l00In k a1 0 3) fun x1 =>
    some x1

def spec_l01Is (k : Nat) (a1 : List Int) (a2 : List Int) : Option (Bool) :=
  Option.bind (spec_l00In k (IntKind.wrap .i64 (rd a2 0)) 0 (IntKind.wrap .i64 ((IntKind.wrap .i64 (rd a1 0)) - 1))) fun x1 =>
    cond x1
      (Option.bind (spec_l00In k (IntKind.wrap .i64 (rd a2 1)) 0 (IntKind.wrap .i64 ((IntKind.wrap .i64 (rd a1 1)) - 1))) fun x2 =>
        some x2)
      (some false)

def spec_l01Ok_s0 {R : Type} (k : Nat) (K1 : Bool → Option R) (K2 : (List Int) → Int → Option R) (rec : (List Int) → Int → Int → Option R) (h1 : List Int) (h2 : Int) (h3 : Int) : Option R :=
  cond (decide (h3 < 10))
    (cond ((decide (0 ≤ h2)) && (decide (h2 < 10)))
      (cond ((decide (0 ≤ h3)) && (decide (h3 < 10)))
        (Option.bind (spec_l01Kind k (IntKind.wrap .i64 (rd h1 ((2 + h2.toNat * 10) + h3.toNat * 1)))) fun x1 =>
          cond (!x1)
            (K1 false)
            (cond ((IntKind.wrap .i64 (rd h1 ((2 + h2.toNat * 10) + h3.toNat * 1))) != 0)
              (Option.bind (spec_l01Is k h1 [h3, h2]) fun x2 =>
                cond (!x2)
                  (K1 false)
                  (rec h1 h2 (IntKind.wrap .i8 (h3 + 1))))
              (rec h1 h2 (IntKind.wrap .i8 (h3 + 1)))))
        none)
      none)
    (K2 h1 h2)

def spec_l01Ok_l0 {R : Type} (k : Nat) (K1 : Bool → Option R) (K2 : (List Int) → Int → Option R) (h1 : List Int) (h2 : Int) (h3 : Int) : Option R :=
  loopF (fun (rec : (List Int) × Int × Int → Option R) (p : (List Int) × Int × Int) => spec_l01Ok_s0 k K1 K2 (fun h1 h2 h3 => rec (h1, h2, h3)) p.1 p.2.1 p.2.2) k (h1, h2, h3)

def spec_l01Ok_s1 {R : Type} (k : Nat) (K1 : Bool → Option R) (K2 : Option R) (rec : (List Int) → Int → Option R) (h1 : List Int) (h2 : Int) : Option R :=
  cond (decide (h2 < 10))
    (spec_l01Ok_l0 k
      (fun y1 =>
        K1 y1)
      (fun y2 y3 =>
        rec y2 (IntKind.wrap .i8 (y3 + 1)))
      h1 h2 0)
    (K2)

def spec_l01Ok_l1 {R : Type} (k : Nat) (K1 : Bool → Option R) (K2 : Option R) (h1 : List Int) (h2 : Int) : Option R :=
  loopF (fun (rec : (List Int) × Int → Option R) (p : (List Int) × Int) => spec_l01Ok_s1 k K1 K2 (fun h1 h2 => rec (h1, h2)) p.1 p.2) k (h1, h2)

def spec_l01Ok (k : Nat) (a1 : List Int) : Option (Bool) :=
  Option.bind (spec_l01Side k (IntKind.wrap .i64 (rd a1 0))) fun x1 =>
    cond (!x1)
      (some false)
      (Option.bind (spec_l01Side k (IntKind.wrap .i64 (rd a1 1))) fun x2 =>
        cond (!x2)
          (some false)
          (spec_l01Ok_l1 k
            (fun y3 =>
              some y3)
            (some true)
            a1 0))

def spec_l01All_s0 {R : Type} (k : Nat) (K1 : (List Int) → Int → (List Int) → Option R) (rec : (List Int) → Int → Int → (List Int) → Option R) (h1 : List Int) (h2 : Int) (h3 : Int) (h4 : List Int) : Option R :=
  cond (decide (h3 < (rd h1 0)))
    (cond (decide (h4.length + 2 ≤ bigLen))
      (rec h1 h2 (IntKind.wrap .i8 (h3 + 1)) (h4 ++ [h3, h2]))
      none)
    (K1 h1 h2 h4)

def spec_l01All_l0 {R : Type} (k : Nat) (K1 : (List Int) → Int → (List Int) → Option R) (h1 : List Int) (h2 : Int) (h3 : Int) (h4 : List Int) : Option R :=
  loopF (fun (rec : (List Int) × Int × Int × (List Int) → Option R) (p : (List Int) × Int × Int × (List Int)) => spec_l01All_s0 k K1 (fun h1 h2 h3 h4 => rec (h1, h2, h3, h4)) p.1 p.2.1 p.2.2.1 p.2.2.2) k (h1, h2, h3, h4)

def spec_l01All_s1 {R : Type} (k : Nat) (K1 : (List Int) → Option R) (rec : (List Int) → Int → (List Int) → Option R) (h1 : List Int) (h2 : Int) (h3 : List Int) : Option R :=
  cond (decide (h2 < (rd h1 1)))
    (spec_l01All_l0 k
      (fun y1 y2 y3 =>
        rec y1 (IntKind.wrap .i8 (y2 + 1)) y3)
      h1 h2 0 h3)
    (K1 h3)

def spec_l01All_l1 {R : Type} (k : Nat) (K1 : (List Int) → Option R) (h1 : List Int) (h2 : Int) (h3 : List Int) : Option R :=
  loopF (fun (rec : (List Int) × Int × (List Int) → Option R) (p : (List Int) × Int × (List Int)) => spec_l01All_s1 k K1 (fun h1 h2 h3 => rec (h1, h2, h3)) p.1 p.2.1 p.2.2) k (h1, h2, h3)

def spec_l01All (k : Nat) (a1 : List Int) : Option ((List Int)) :=
  spec_l01All_l1 k
    (fun y1 =>
      some y1)
    a1 0 []

def spec_l01At (k : Nat) (a1 : List Int) (a2 : List Int) : Option (Int) :=
  cond ((decide (0 ≤ (rd a2 1))) && (decide ((rd a2 1) < 10)))
    (cond ((decide (0 ≤ (rd a2 0))) && (decide ((rd a2 0) < 10)))
      (some (IntKind.wrap .i64 (rd a1 ((2 + (rd a2 1).toNat * 10) + (rd a2 0).toNat * 1))))
      none)
    none

def spec_l01Cells_s0 {R : Type} (k : Nat) (K1 : (List Int) → Option R) (rec : (List Int) → Int → Int → (List Int) → (List Int) → Option R) (h1 : List Int) (h2 : Int) (h3 : Int) (h4 : List Int) (h5 : List Int) : Option R :=
  cond (decide (h3 < ((cnt 2 h5) : Int)))
    (cond ((decide (0 ≤ h3)) && (decide (h3 < ((cnt 2 h5) : Int))))
      (Option.bind (spec_l01At k h1 [(rd h5 (h3.toNat * 2)), (rd h5 ((h3.toNat * 2) + 1))]) fun x1 =>
        cond (x1 == h2)
          (cond ((decide (0 ≤ h3)) && (decide (h3 < ((cnt 2 h5) : Int))))
            (cond (decide (h4.length + 2 ≤ bigLen))
              (rec h1 h2 (IntKind.wrap .i64 (h3 + 1)) (h4 ++ [(rd h5 (h3.toNat * 2)), (rd h5 ((h3.toNat * 2) + 1))]) h5)
              none)
            none)
          (rec h1 h2 (IntKind.wrap .i64 (h3 + 1)) h4 h5))
      none)
    (K1 h4)

def spec_l01Cells_l0 {R : Type} (k : Nat) (K1 : (List Int) → Option R) (h1 : List Int) (h2 : Int) (h3 : Int) (h4 : List Int) (h5 : List Int) : Option R :=
  loopF (fun (rec : (List Int) × Int × Int × (List Int) × (List Int) → Option R) (p : (List Int) × Int × Int × (List Int) × (List Int)) => spec_l01Cells_s0 k K1 (fun h1 h2 h3 h4 h5 => rec (h1, h2, h3, h4, h5)) p.1 p.2.1 p.2.2.1 p.2.2.2.1 p.2.2.2.2) k (h1, h2, h3, h4, h5)

def spec_l01Cells (k : Nat) (a1 : List Int) (a2 : Int) : Option ((List Int)) :=
  Option.bind (spec_l01All k a1) fun x1 =>
    spec_l01Cells_l0 k
      (fun y2 =>
        some y2)
      a1 a2 0 [] x1

def spec_l01Back (k : Nat) (a1 : List Int) (a2 : Bool) (a3 : Int) : Option ((List Int)) :=
  cond a2
    (some [(IntKind.wrap .i8 ((rd a1 0) - a3)), (rd a1 1)])
    (some [(rd a1 0), (IntKind.wrap .i8 ((rd a1 1) - a3))])

def spec_l01Grass (k : Nat) (a1 : List Int) (a2 : List Int) : Option (Bool) :=
  Option.bind (spec_l01Is k a1 [(rd a2 0), (rd a2 1)]) fun x1 =>
    cond x1
      (Option.bind (spec_l01At k a1 [(rd a2 0), (rd a2 1)]) fun x2 =>
        some (x2 == 0))
      (some false)

def spec_l01Runs_s0 {R : Type} (k : Nat) (K1 : (List Int) → Bool → Int → (List Int) → (List Int) → (List Int) → Option R) (rec : (List Int) → Bool → Int → (List Int) → (List Int) → (List Int) → Option R) (h1 : List Int) (h2 : Bool) (h3 : Int) (h4 : List Int) (h5 : List Int) (h6 : List Int) : Option R :=
  cond ((decide (0 ≤ h3)) && (decide (h3 < ((cnt 2 h5) : Int))))
    (Option.bind (spec_l01Back k [(rd h5 (h3.toNat * 2)), (rd h5 ((h3.toNat * 2) + 1))] h2 (IntKind.wrap .i8 (0 - (rd h6 2)))) fun x1 =>
      Option.bind (spec_l01Grass k h1 x1) fun x2 =>
        cond x2
          (rec h1 h2 h3 h4 h5 (List.set h6 2 (IntKind.wrap .i8 ((rd h6 2) + 1))))
          (K1 h1 h2 h3 h4 h5 h6))
    none

def spec_l01Runs_l0 {R : Type} (k : Nat) (K1 : (List Int) → Bool → Int → (List Int) → (List Int) → (List Int) → Option R) (h1 : List Int) (h2 : Bool) (h3 : Int) (h4 : List Int) (h5 : List Int) (h6 : List Int) : Option R :=
  loopF (fun (rec : (List Int) × Bool × Int × (List Int) × (List Int) × (List Int) → Option R) (p : (List Int) × Bool × Int × (List Int) × (List Int) × (List Int)) => spec_l01Runs_s0 k K1 (fun h1 h2 h3 h4 h5 h6 => rec (h1, h2, h3, h4, h5, h6)) p.1 p.2.1 p.2.2.1 p.2.2.2.1 p.2.2.2.2.1 p.2.2.2.2.2) k (h1, h2, h3, h4, h5, h6)

def spec_l01Runs_s1 {R : Type} (k : Nat) (K1 : (List Int) → Option R) (rec : (List Int) → Bool → Int → (List Int) → (List Int) → Option R) (h1 : List Int) (h2 : Bool) (h3 : Int) (h4 : List Int) (h5 : List Int) : Option R :=
  cond (decide (h3 < ((cnt 2 h5) : Int)))
    (cond ((decide (0 ≤ h3)) && (decide (h3 < ((cnt 2 h5) : Int))))
      (Option.bind (spec_l01Back k [(rd h5 (h3.toNat * 2)), (rd h5 ((h3.toNat * 2) + 1))] h2 1) fun x1 =>
        Option.bind (spec_l01Grass k h1 x1) fun x2 =>
          cond x2
            (rec h1 h2 (IntKind.wrap .i64 (h3 + 1)) h4 h5)
            (cond ((decide (0 ≤ h3)) && (decide (h3 < ((cnt 2 h5) : Int))))
              (spec_l01Runs_l0 k
                (fun y3 y4 y5 y6 y7 y8 =>
                  cond (decide (y6.length + 3 ≤ bigLen))
                    (rec y3 y4 (IntKind.wrap .i64 (y5 + 1)) (y6 ++ [(rd y8 0), (rd y8 1), (rd y8 2)]) y7)
                    none)
                h1 h2 h3 h4 h5 [(rd h5 (h3.toNat * 2)), (rd h5 ((h3.toNat * 2) + 1)), 0])
              none))
      none)
    (K1 h4)

def spec_l01Runs_l1 {R : Type} (k : Nat) (K1 : (List Int) → Option R) (h1 : List Int) (h2 : Bool) (h3 : Int) (h4 : List Int) (h5 : List Int) : Option R :=
  loopF (fun (rec : (List Int) × Bool × Int × (List Int) × (List Int) → Option R) (p : (List Int) × Bool × Int × (List Int) × (List Int)) => spec_l01Runs_s1 k K1 (fun h1 h2 h3 h4 h5 => rec (h1, h2, h3, h4, h5)) p.1 p.2.1 p.2.2.1 p.2.2.2.1 p.2.2.2.2) k (h1, h2, h3, h4, h5)

def spec_l01Runs (k : Nat) (a1 : List Int) (a2 : Bool) : Option ((List Int)) :=
  Option.bind (spec_l01Cells k a1 0) fun x1 =>
    spec_l01Runs_l1 k
      (fun y2 =>
        some y2)
      a1 a2 0 [] x1

def spec_LongestRun_s0 {R : Type} (k : Nat) (K1 : (List Int) → (List Int) → Option R) (rec : Int → (List Int) → (List Int) → (List Int) → Option R) (h1 : Int) (h2 : List Int) (h3 : List Int) (h4 : List Int) : Option R :=
  cond (decide (h1 < ((cnt 3 h4) : Int)))
    (cond ((decide (0 ≤ h1)) && (decide (h1 < ((cnt 3 h4) : Int))))
      (cond (decide ((rd h4 ((h1.toNat * 3) + 2)) > (rd h3 2)))
        (cond ((decide (0 ≤ h1)) && (decide (h1 < ((cnt 3 h4) : Int))))
          (rec (IntKind.wrap .i64 (h1 + 1)) h2 [(rd h4 (h1.toNat * 3)), (rd h4 ((h1.toNat * 3) + 1)), (rd h4 ((h1.toNat * 3) + 2))] h4)
          none)
        (rec (IntKind.wrap .i64 (h1 + 1)) h2 h3 h4))
      none)
    (K1 h2 h3)

def spec_LongestRun_l0 {R : Type} (k : Nat) (K1 : (List Int) → (List Int) → Option R) (h1 : Int) (h2 : List Int) (h3 : List Int) (h4 : List Int) : Option R :=
  loopF (fun (rec : Int × (List Int) × (List Int) × (List Int) → Option R) (p : Int × (List Int) × (List Int) × (List Int)) => spec_LongestRun_s0 k K1 (fun h1 h2 h3 h4 => rec (h1, h2, h3, h4)) p.1 p.2.1 p.2.2.1 p.2.2.2) k (h1, h2, h3, h4)

def spec_LongestRun (k : Nat) (a1 : List Int) (a2 : Bool) : Option ((List Int) × Int) :=
  Option.bind (spec_l01Ok k a1) fun x1 =>
    cond (!x1)
      (some ([0, 0, 0], 1))
      (Option.bind (spec_l01Runs k a1 a2) fun x2 =>
        spec_LongestRun_l0 k
          (fun y3 y4 =>
            cond ((rd y4 2) == 0)
              (some ([0, 0, 0], 6))
              (some ([(rd y4 0), (rd y4 1), (rd y4 2)], 0)))
          0 [0, 0, 0] [0, 0, 0] x2)

def impl_within (k : Nat) (a1 : Int) (a2 : Int) (a3 : Int) : Option (Bool) :=
  cond (decide (a2 ≤ a1))
    (some (decide (a1 ≤ a3)))
    (some false)

def impl_Lawn_has (k : Nat) (a1 : List Int) (a2 : List Int) : Option (Bool) :=
  cond (decide ((rd a2 0) ≥ 0))
    (cond (decide ((rd a2 0) < (rd a1 0)))
      (cond (decide ((rd a2 1) ≥ 0))
        (some (decide ((rd a2 1) < (rd a1 1))))
        (some false))
      (some false))
    (some false)

def impl_ValidLawn_s0 {R : Type} (k : Nat) (K1 : Bool → Option R) (K2 : Int → (List Int) → Option R) (rec : Int → Int → Int → (List Int) → Option R) (h1 : Int) (h2 : Int) (h3 : Int) (h4 : List Int) : Option R :=
  cond (decide (h3 < 10))
    (cond ((decide (0 ≤ h1)) && (decide (h1 < 10)))
      (cond ((decide (0 ≤ h3)) && (decide (h3 < 10)))
        (cond (decide ((rd h4 ((2 + h1.toNat * 10) + h3.toNat * 1)) > 3))
          (K1 false)
          (cond ((rd h4 ((2 + h1.toNat * 10) + h3.toNat * 1)) != 0)
            (Option.bind (impl_Lawn_has k h4 [h3, h1]) fun x1 =>
              cond (!x1)
                (K1 false)
                (rec h1 h2 (IntKind.wrap .i8 (h3 + 1)) h4))
            (rec h1 h2 (IntKind.wrap .i8 (h3 + 1)) h4)))
        none)
      none)
    (K2 h2 h4)

def impl_ValidLawn_l0 {R : Type} (k : Nat) (K1 : Bool → Option R) (K2 : Int → (List Int) → Option R) (h1 : Int) (h2 : Int) (h3 : Int) (h4 : List Int) : Option R :=
  loopF (fun (rec : Int × Int × Int × (List Int) → Option R) (p : Int × Int × Int × (List Int)) => impl_ValidLawn_s0 k K1 K2 (fun h1 h2 h3 h4 => rec (h1, h2, h3, h4)) p.1 p.2.1 p.2.2.1 p.2.2.2) k (h1, h2, h3, h4)

def impl_ValidLawn_s1 {R : Type} (k : Nat) (K1 : Bool → Option R) (K2 : Option R) (rec : Int → (List Int) → Option R) (h1 : Int) (h2 : List Int) : Option R :=
  cond (decide (h1 < 10))
    (impl_ValidLawn_l0 k
      (fun y1 =>
        K1 y1)
      (fun y2 y3 =>
        rec (IntKind.wrap .i8 (y2 + 1)) y3)
      h1 h1 0 h2)
    (K2)

def impl_ValidLawn_l1 {R : Type} (k : Nat) (K1 : Bool → Option R) (K2 : Option R) (h1 : Int) (h2 : List Int) : Option R :=
  loopF (fun (rec : Int × (List Int) → Option R) (p : Int × (List Int)) => impl_ValidLawn_s1 k K1 K2 (fun h1 h2 => rec (h1, h2)) p.1 p.2) k (h1, h2)

def impl_ValidLawn (k : Nat) (a1 : List Int) : Option (Bool) :=
  Option.bind (impl_within k (IntKind.wrap .i64 (rd a1 0)) 1 10) fun x1 =>
    cond (!x1)
      (some false)
      (Option.bind (impl_within k (IntKind.wrap .i64 (rd a1 1)) 1 10) fun x2 =>
        cond (!x2)
          (some false)
          (impl_ValidLawn_l1 k
            (fun y3 =>
              some y3)
            (some true)
            0 a1))

def impl_cellsCode_1 (k : Nat) (a1 : List Int) (a2 : List Int) : Option (Bool) :=
  Option.bind (impl_Lawn_has k a2 [(rd a1 0), (rd a1 1)]) fun x1 =>
    some (!x1)

def slices_IndexFunc_impl_Cell_s0 {R : Type} (k : Nat) (K1 : Int → Option R) (K2 : Option R) (rec : (List Int) → (List Int → Option Bool) → Int → Int → Option R) (h1 : List Int) (h2 : List Int → Option Bool) (h3 : Int) (h4 : Int) : Option R :=
  cond (decide (h4 < h3))
    (cond ((decide (0 ≤ h4)) && (decide (h4 < ((cnt 2 h1) : Int))))
      (Option.bind (h2 [(rd h1 (h4.toNat * 2)), (rd h1 ((h4.toNat * 2) + 1))]) fun x1 =>
        cond x1
          (K1 h4)
          (rec h1 h2 h3 (IntKind.wrap .i64 (h4 + 1))))
      none)
    (K2)

def slices_IndexFunc_impl_Cell_l0 {R : Type} (k : Nat) (K1 : Int → Option R) (K2 : Option R) (h1 : List Int) (h2 : List Int → Option Bool) (h3 : Int) (h4 : Int) : Option R :=
  loopF (fun (rec : (List Int) × (List Int → Option Bool) × Int × Int → Option R) (p : (List Int) × (List Int → Option Bool) × Int × Int) => slices_IndexFunc_impl_Cell_s0 k K1 K2 (fun h1 h2 h3 h4 => rec (h1, h2, h3, h4)) p.1 p.2.1 p.2.2.1 p.2.2.2) k (h1, h2, h3, h4)

def slices_IndexFunc_impl_Cell (k : Nat) (a1 : List Int) (a2 : List Int → Option Bool) : Option (Int) :=
  slices_IndexFunc_impl_Cell_l0 k
    (fun y1 =>
      some y1)
    (some (-1))
    a1 a2 ((cnt 2 a1) : Int) 0

def slices_ContainsFunc_impl_Cell (k : Nat) (a1 : List Int) (a2 : List Int → Option Bool) : Option (Bool) :=
  Option.bind (slices_IndexFunc_impl_Cell k a1 a2) fun x1 =>
    some (decide (x1 ≥ 0))

def impl_cellsCode (k : Nat) (a1 : List Int) (a2 : List Int) : Option (Int) :=
  Option.bind (impl_ValidLawn k a1) fun x1 =>
    cond (!x1)
      (some 1)
      (Option.bind (slices_ContainsFunc_impl_Cell k a2 (fun z2 => (impl_cellsCode_1 k [(rd z2 0), (rd z2 1)] a1).bind fun b => some b)) fun x3 =>
        cond x3
          (some 2)
          (some 0))

def impl_Lawn_all_s0 {R : Type} (k : Nat) (K1 : Int → Int → (List Int) → (List Int) → Option R) (rec : Int → Int → Int → Int → Int → (List Int) → (List Int) → Option R) (h1 : Int) (h2 : Int) (h3 : Int) (h4 : Int) (h5 : Int) (h6 : List Int) (h7 : List Int) : Option R :=
  cond (decide (h5 < h4))
    (cond (decide (h7.length + 2 ≤ bigLen))
      (rec h1 h2 h3 h4 (IntKind.wrap .i8 (h5 + 1)) h6 (h7 ++ [h5, h1]))
      none)
    (K1 h2 h3 h6 h7)

def impl_Lawn_all_l0 {R : Type} (k : Nat) (K1 : Int → Int → (List Int) → (List Int) → Option R) (h1 : Int) (h2 : Int) (h3 : Int) (h4 : Int) (h5 : Int) (h6 : List Int) (h7 : List Int) : Option R :=
  loopF (fun (rec : Int × Int × Int × Int × Int × (List Int) × (List Int) → Option R) (p : Int × Int × Int × Int × Int × (List Int) × (List Int)) => impl_Lawn_all_s0 k K1 (fun h1 h2 h3 h4 h5 h6 h7 => rec (h1, h2, h3, h4, h5, h6, h7)) p.1 p.2.1 p.2.2.1 p.2.2.2.1 p.2.2.2.2.1 p.2.2.2.2.2.1 p.2.2.2.2.2.2) k (h1, h2, h3, h4, h5, h6, h7)

def impl_Lawn_all_s1 {R : Type} (k : Nat) (K1 : (List Int) → Option R) (rec : Int → Int → (List Int) → (List Int) → Option R) (h1 : Int) (h2 : Int) (h3 : List Int) (h4 : List Int) : Option R :=
  cond (decide (h2 < h1))
    (impl_Lawn_all_l0 k
      (fun y1 y2 y3 y4 =>
        rec y1 (IntKind.wrap .i8 (y2 + 1)) y3 y4)
      h2 h1 h2 (rd h3 0) 0 h3 h4)
    (K1 h4)

def impl_Lawn_all_l1 {R : Type} (k : Nat) (K1 : (List Int) → Option R) (h1 : Int) (h2 : Int) (h3 : List Int) (h4 : List Int) : Option R :=
  loopF (fun (rec : Int × Int × (List Int) × (List Int) → Option R) (p : Int × Int × (List Int) × (List Int)) => impl_Lawn_all_s1 k K1 (fun h1 h2 h3 h4 => rec (h1, h2, h3, h4)) p.1 p.2.1 p.2.2.1 p.2.2.2) k (h1, h2, h3, h4)

def impl_Lawn_all (k : Nat) (a1 : List Int) : Option ((List Int)) :=
  impl_Lawn_all_l1 k
    (fun y1 =>
      some y1)
    (rd a1 1) 0 a1 []

def impl_Lawn_kind (k : Nat) (a1 : List Int) (a2 : List Int) : Option (Int) :=
  cond ((decide (0 ≤ (rd a2 1))) && (decide ((rd a2 1) < 10)))
    (cond ((decide (0 ≤ (rd a2 0))) && (decide ((rd a2 0) < 10)))
      (some (IntKind.wrap .i64 (rd a1 ((2 + (rd a2 1).toNat * 10) + (rd a2 0).toNat * 1))))
      none)
    none

def impl_Lawn_is (k : Nat) (a1 : List Int) (a2 : List Int) (a3 : Int) : Option (Bool) :=
  Option.bind (impl_Lawn_has k a1 [(rd a2 0), (rd a2 1)]) fun x1 =>
    cond x1
      (Option.bind (impl_Lawn_kind k a1 [(rd a2 0), (rd a2 1)]) fun x2 =>
        some (x2 == a3))
      (some false)

def impl_Lawn_grass (k : Nat) (a1 : List Int) (a2 : List Int) : Option (Bool) :=
  Option.bind (impl_Lawn_is k a1 [(rd a2 0), (rd a2 1)] 0) fun x1 =>
    some x1

def impl_Lawn_runs_s0 {R : Type} (k : Nat) (K1 : Int → Int → Int → Int → Int → (List Int) → (List Int) → (List Int) → (List Int) → Option R) (rec : Int → Int → Int → Int → Int → (List Int) → (List Int) → (List Int) → (List Int) → Option R) (h1 : Int) (h2 : Int) (h3 : Int) (h4 : Int) (h5 : Int) (h6 : List Int) (h7 : List Int) (h8 : List Int) (h9 : List Int) : Option R :=
  Option.bind (impl_Lawn_grass k h6 [(IntKind.wrap .i8 ((rd h8 0) + (IntKind.wrap .i8 (h3 * h1)))), (IntKind.wrap .i8 ((rd h8 1) + (IntKind.wrap .i8 (h3 * h2))))]) fun x1 =>
    cond x1
      (rec h1 h2 (IntKind.wrap .i8 (h3 + 1)) h4 h5 h6 h7 h8 h9)
      (K1 h1 h2 h3 h4 h5 h6 h7 h8 h9)

def impl_Lawn_runs_l0 {R : Type} (k : Nat) (K1 : Int → Int → Int → Int → Int → (List Int) → (List Int) → (List Int) → (List Int) → Option R) (h1 : Int) (h2 : Int) (h3 : Int) (h4 : Int) (h5 : Int) (h6 : List Int) (h7 : List Int) (h8 : List Int) (h9 : List Int) : Option R :=
  loopF (fun (rec : Int × Int × Int × Int × Int × (List Int) × (List Int) × (List Int) × (List Int) → Option R) (p : Int × Int × Int × Int × Int × (List Int) × (List Int) × (List Int) × (List Int)) => impl_Lawn_runs_s0 k K1 (fun h1 h2 h3 h4 h5 h6 h7 h8 h9 => rec (h1, h2, h3, h4, h5, h6, h7, h8, h9)) p.1 p.2.1 p.2.2.1 p.2.2.2.1 p.2.2.2.2.1 p.2.2.2.2.2.1 p.2.2.2.2.2.2.1 p.2.2.2.2.2.2.2.1 p.2.2.2.2.2.2.2.2) k (h1, h2, h3, h4, h5, h6, h7, h8, h9)

def impl_Lawn_runs_s1 {R : Type} (k : Nat) (K1 : (List Int) → Option R) (rec : Int → Int → Int → Int → (List Int) → (List Int) → (List Int) → Option R) (h1 : Int) (h2 : Int) (h3 : Int) (h4 : Int) (h5 : List Int) (h6 : List Int) (h7 : List Int) : Option R :=
  cond (decide (h4 < h3))
    (cond ((decide (0 ≤ h4)) && (decide (h4 < ((cnt 2 h7) : Int))))
      (Option.bind (impl_Lawn_grass k h5 [(rd h7 (h4.toNat * 2)), (rd h7 ((h4.toNat * 2) + 1))]) fun x1 =>
        cond (!x1)
          (rec h1 h2 h3 (IntKind.wrap .i64 (h4 + 1)) h5 h6 h7)
          (Option.bind (impl_Lawn_grass k h5 [(IntKind.wrap .i8 ((rd h7 (h4.toNat * 2)) - h1)), (IntKind.wrap .i8 ((rd h7 ((h4.toNat * 2) + 1)) - h2))]) fun x2 =>
            cond x2
              (rec h1 h2 h3 (IntKind.wrap .i64 (h4 + 1)) h5 h6 h7)
              (impl_Lawn_runs_l0 k
                (fun y3 y4 y5 y6 y7 y8 y9 y10 y11 =>
                  cond (decide (y9.length + 3 ≤ bigLen))
                    (rec y3 y4 y6 (IntKind.wrap .i64 (y7 + 1)) y8 (y9 ++ [(rd y10 0), (rd y10 1), y5]) y11)
                    none)
                h1 h2 0 h3 h4 h5 h6 [(rd h7 (h4.toNat * 2)), (rd h7 ((h4.toNat * 2) + 1))] h7)))
      none)
    (K1 h6)

def impl_Lawn_runs_l1 {R : Type} (k : Nat) (K1 : (List Int) → Option R) (h1 : Int) (h2 : Int) (h3 : Int) (h4 : Int) (h5 : List Int) (h6 : List Int) (h7 : List Int) : Option R :=
  loopF (fun (rec : Int × Int × Int × Int × (List Int) × (List Int) × (List Int) → Option R) (p : Int × Int × Int × Int × (List Int) × (List Int) × (List Int)) => impl_Lawn_runs_s1 k K1 (fun h1 h2 h3 h4 h5 h6 h7 => rec (h1, h2, h3, h4, h5, h6, h7)) p.1 p.2.1 p.2.2.1 p.2.2.2.1 p.2.2.2.2.1 p.2.2.2.2.2.1 p.2.2.2.2.2.2) k (h1, h2, h3, h4, h5, h6, h7)

def impl_Lawn_runs (k : Nat) (a1 : List Int) (a2 : Bool) : Option ((List Int)) :=
  cond (!a2)
    (Option.bind (impl_Lawn_all k a1) fun x1 =>
      impl_Lawn_runs_l1 k
        (fun y2 =>
          some y2)
        0 1 ((cnt 2 x1) : Int) 0 a1 [] x1)
    (Option.bind (impl_Lawn_all k a1) fun x3 =>
      impl_Lawn_runs_l1 k
        (fun y4 =>
          some y4)
        1 0 ((cnt 2 x3) : Int) 0 a1 [] x3)

def impl_LongestRun_s0 {R : Type} (k : Nat) (K1 : (List Int) → (List Int) → Option R) (rec : Int → Int → (List Int) → (List Int) → (List Int) → Option R) (h1 : Int) (h2 : Int) (h3 : List Int) (h4 : List Int) (h5 : List Int) : Option R :=
  cond (decide (h2 < h1))
    (cond ((decide (0 ≤ h2)) && (decide (h2 < ((cnt 3 h5) : Int))))
      (cond (decide ((rd h5 ((h2.toNat * 3) + 2)) > (rd h4 2)))
        (rec h1 (IntKind.wrap .i64 (h2 + 1)) h3 [(rd h5 (h2.toNat * 3)), (rd h5 ((h2.toNat * 3) + 1)), (rd h5 ((h2.toNat * 3) + 2))] h5)
        (rec h1 (IntKind.wrap .i64 (h2 + 1)) h3 h4 h5))
      none)
    (K1 h3 h4)

def impl_LongestRun_l0 {R : Type} (k : Nat) (K1 : (List Int) → (List Int) → Option R) (h1 : Int) (h2 : Int) (h3 : List Int) (h4 : List Int) (h5 : List Int) : Option R :=
  loopF (fun (rec : Int × Int × (List Int) × (List Int) × (List Int) → Option R) (p : Int × Int × (List Int) × (List Int) × (List Int)) => impl_LongestRun_s0 k K1 (fun h1 h2 h3 h4 h5 => rec (h1, h2, h3, h4, h5)) p.1 p.2.1 p.2.2.1 p.2.2.2.1 p.2.2.2.2) k (h1, h2, h3, h4, h5)

def impl_LongestRun (k : Nat) (a1 : List Int) (a2 : Bool) : Option ((List Int) × Int) :=
  Option.bind (impl_cellsCode k a1 []) fun x1 =>
    cond (x1 != 0)
      (some ([0, 0, 0], x1))
      (Option.bind (impl_Lawn_runs k a1 a2) fun x2 =>
        impl_LongestRun_l0 k
          (fun y3 y4 =>
            cond ((rd y4 2) == 0)
              (some ([0, 0, 0], 6))
              (some ([(rd y4 0), (rd y4 1), (rd y4 2)], 0)))
          ((cnt 3 x2) : Int) 0 [0, 0, 0] [0, 0, 0] x2)

def laws_eqCell (k : Nat) (a1 : List Int) (a2 : List Int) : Option (Bool) :=
  cond ((rd a1 0) != (rd a2 0))
    (some false)
    (cond ((rd a1 1) != (rd a2 1))
      (some false)
      (some true))

def laws_eqRun (k : Nat) (a1 : List Int) (a2 : List Int) : Option (Bool) :=
  Option.bind (laws_eqCell k [(rd a1 0), (rd a1 1)] [(rd a2 0), (rd a2 1)]) fun x1 =>
    cond (!x1)
      (some false)
      (cond ((rd a1 2) != (rd a2 2))
        (some false)
        (some true))

def laws_FnExactLongestRun (k : Nat) (a1 : List Int) (a2 : Bool) : Option (Bool) :=
  Option.bind (laws_toLawn k a1) fun x1 =>
    Option.bind (spec_LongestRun k x1 a2) fun x2 =>
      Option.bind (laws_toLawn k a1) fun x3 =>
        Option.bind (impl_LongestRun k x3 a2) fun x4 =>
          Option.bind (laws_eqRun k [(rd x4.1 0), (rd x4.1 1), (rd x4.1 2)] [(rd x2.1 0), (rd x2.1 1), (rd x2.1 2)]) fun x5 =>
            cond (!x5)
              (some false)
              (cond (x4.2 != x2.2)
                (some false)
                (some true))

def laws_toWear_s0 {R : Type} (k : Nat) (K1 : (List Int) → (List Int) → Option R) (rec : Int → (List Int) → (List Int) → (List Int) → Option R) (h1 : Int) (h2 : List Int) (h3 : List Int) (h4 : List Int) : Option R :=
  cond (decide (h1 < 5))
    (cond ((decide (0 ≤ h1)) && (decide (h1 < 5)))
      (cond ((decide (0 ≤ h1)) && (decide (h1 < 5)))
        (rec (IntKind.wrap .i64 (h1 + 1)) h2 h3 (List.set h4 (0 + h1.toNat * 1) (rd h2 (0 + h1.toNat * 1))))
        none)
      none)
    (K1 h3 h4)

def laws_toWear_l0 {R : Type} (k : Nat) (K1 : (List Int) → (List Int) → Option R) (h1 : Int) (h2 : List Int) (h3 : List Int) (h4 : List Int) : Option R :=
  loopF (fun (rec : Int × (List Int) × (List Int) × (List Int) → Option R) (p : Int × (List Int) × (List Int) × (List Int)) => laws_toWear_s0 k K1 (fun h1 h2 h3 h4 => rec (h1, h2, h3, h4)) p.1 p.2.1 p.2.2.1 p.2.2.2) k (h1, h2, h3, h4)

def laws_toWear (k : Nat) (a1 : List Int) : Option ((List Int)) :=
  laws_toWear_l0 k
    (fun y1 y2 =>
      some [(rd y2 0), (rd y2 1), (rd y2 2), (rd y2 3), (rd y2 4)])
    0 a1 [0, 0, 0, 0, 0] [0, 0, 0, 0, 0]

def spec_l05Wear_s0 {R : Type} (k : Nat) (K1 : Bool → Option R) (K2 : (List Int) → Option R) (rec : (List Int) → Int → Option R) (h1 : List Int) (h2 : Int) : Option R :=
  cond (decide (h2 < 5))
    (cond ((decide (0 ≤ h2)) && (decide (h2 < 5)))
      (Option.bind (spec_l00In k (IntKind.wrap .i64 (rd h1 (0 + h2.toNat * 1))) 0 100) fun x1 =>
        cond (!x1)
          (K1 false)
          (rec h1 (IntKind.wrap .i64 (h2 + 1))))
      none)
    (K2 h1)

def spec_l05Wear_l0 {R : Type} (k : Nat) (K1 : Bool → Option R) (K2 : (List Int) → Option R) (h1 : List Int) (h2 : Int) : Option R :=
  loopF (fun (rec : (List Int) × Int → Option R) (p : (List Int) × Int) => spec_l05Wear_s0 k K1 K2 (fun h1 h2 => rec (h1, h2)) p.1 p.2) k (h1, h2)

def spec_l05Wear (k : Nat) (a1 : List Int) : Option (Bool) :=
  spec_l05Wear_l0 k
    (fun y1 =>
      some y1)
    (fun y2 =>
      some ((rd y2 0) == 0))
    a1 0

def spec_l05Near (k : Nat) (a1 : List Int) : Option ((List Int)) :=
  some [(rd a1 0), (IntKind.wrap .i8 ((rd a1 1) - 1)), (IntKind.wrap .i8 ((rd a1 0) - 1)), (rd a1 1), (IntKind.wrap .i8 ((rd a1 0) + 1)), (rd a1 1), (rd a1 0), (IntKind.wrap .i8 ((rd a1 1) + 1))]

def spec_l05At_s0 {R : Type} (k : Nat) (K1 : (List Int) → (List Int) → Option R) (rec : (List Int) → Int → (List Int) → (List Int) → (List Int) → Option R) (h1 : List Int) (h2 : Int) (h3 : List Int) (h4 : List Int) (h5 : List Int) : Option R :=
  cond (decide (h2 < ((cnt 2 h5) : Int)))
    (cond ((decide (0 ≤ h2)) && (decide (h2 < ((cnt 2 h5) : Int))))
      (Option.bind (spec_l01Is k h1 [(rd h5 (h2.toNat * 2)), (rd h5 ((h2.toNat * 2) + 1))]) fun x1 =>
        cond x1
          (cond ((decide (0 ≤ h2)) && (decide (h2 < ((cnt 2 h5) : Int))))
            (Option.bind (spec_l01At k h1 [(rd h5 (h2.toNat * 2)), (rd h5 ((h2.toNat * 2) + 1))]) fun x2 =>
              cond ((decide (0 ≤ x2)) && (decide (x2 < 5)))
                (cond ((decide (0 ≤ x2)) && (decide (x2 < 5)))
                  (rec h1 (IntKind.wrap .i64 (h2 + 1)) h3 (List.set h4 (0 + x2.toNat * 1) (IntKind.wrap .i64 ((rd h4 (0 + x2.toNat * 1)) + 1))) h5)
                  none)
                none)
            none)
          (rec h1 (IntKind.wrap .i64 (h2 + 1)) h3 (List.set h4 4 (IntKind.wrap .i64 ((rd h4 4) + 1))) h5))
      none)
    (K1 h3 h4)

def spec_l05At_l0 {R : Type} (k : Nat) (K1 : (List Int) → (List Int) → Option R) (h1 : List Int) (h2 : Int) (h3 : List Int) (h4 : List Int) (h5 : List Int) : Option R :=
  loopF (fun (rec : (List Int) × Int × (List Int) × (List Int) × (List Int) → Option R) (p : (List Int) × Int × (List Int) × (List Int) × (List Int)) => spec_l05At_s0 k K1 (fun h1 h2 h3 h4 h5 => rec (h1, h2, h3, h4, h5)) p.1 p.2.1 p.2.2.1 p.2.2.2.1 p.2.2.2.2) k (h1, h2, h3, h4, h5)

def spec_l05At (k : Nat) (a1 : List Int) (a2 : List Int) : Option ((List Int)) :=
  Option.bind (spec_l05Near k [(rd a2 0), (rd a2 1)]) fun x1 =>
    spec_l05At_l0 k
      (fun y2 y3 =>
        some [(rd y3 0), (rd y3 1), (rd y3 2), (rd y3 3), (rd y3 4)])
      a1 0 [0, 0, 0, 0, 0] [0, 0, 0, 0, 0] x1

def spec_l05All_s0 {R : Type} (k : Nat) (K1 : (List Int) → Int → (List Int) → (List Int) → (List Int) → Option R) (rec : (List Int) → Int → Int → (List Int) → (List Int) → (List Int) → (List Int) → Option R) (h1 : List Int) (h2 : Int) (h3 : Int) (h4 : List Int) (h5 : List Int) (h6 : List Int) (h7 : List Int) : Option R :=
  cond (decide (h3 < 5))
    (cond ((decide (0 ≤ h3)) && (decide (h3 < 5)))
      (cond ((decide (0 ≤ h3)) && (decide (h3 < 5)))
        (cond ((decide (0 ≤ h3)) && (decide (h3 < 5)))
          (rec h1 h2 (IntKind.wrap .i64 (h3 + 1)) h4 (List.set h5 (0 + h3.toNat * 1) (IntKind.wrap .i64 ((rd h5 (0 + h3.toNat * 1)) + (rd h7 (0 + h3.toNat * 1))))) h6 h7)
          none)
        none)
      none)
    (K1 h1 h2 h4 h5 h6)

def spec_l05All_l0 {R : Type} (k : Nat) (K1 : (List Int) → Int → (List Int) → (List Int) → (List Int) → Option R) (h1 : List Int) (h2 : Int) (h3 : Int) (h4 : List Int) (h5 : List Int) (h6 : List Int) (h7 : List Int) : Option R :=
  loopF (fun (rec : (List Int) × Int × Int × (List Int) × (List Int) × (List Int) × (List Int) → Option R) (p : (List Int) × Int × Int × (List Int) × (List Int) × (List Int) × (List Int)) => spec_l05All_s0 k K1 (fun h1 h2 h3 h4 h5 h6 h7 => rec (h1, h2, h3, h4, h5, h6, h7)) p.1 p.2.1 p.2.2.1 p.2.2.2.1 p.2.2.2.2.1 p.2.2.2.2.2.1 p.2.2.2.2.2.2) k (h1, h2, h3, h4, h5, h6, h7)

def spec_l05All_s1 {R : Type} (k : Nat) (K1 : (List Int) → (List Int) → Option R) (rec : (List Int) → Int → (List Int) → (List Int) → (List Int) → Option R) (h1 : List Int) (h2 : Int) (h3 : List Int) (h4 : List Int) (h5 : List Int) : Option R :=
  cond (decide (h2 < ((cnt 2 h5) : Int)))
    (cond ((decide (0 ≤ h2)) && (decide (h2 < ((cnt 2 h5) : Int))))
      (Option.bind (spec_l05At k h1 [(rd h5 (h2.toNat * 2)), (rd h5 ((h2.toNat * 2) + 1))]) fun x1 =>
        spec_l05All_l0 k
          (fun y2 y3 y4 y5 y6 =>
            rec y2 (IntKind.wrap .i64 (y3 + 1)) y4 y5 y6)
          h1 h2 0 h3 h4 h5 x1)
      none)
    (K1 h3 h4)

def spec_l05All_l1 {R : Type} (k : Nat) (K1 : (List Int) → (List Int) → Option R) (h1 : List Int) (h2 : Int) (h3 : List Int) (h4 : List Int) (h5 : List Int) : Option R :=
  loopF (fun (rec : (List Int) × Int × (List Int) × (List Int) × (List Int) → Option R) (p : (List Int) × Int × (List Int) × (List Int) × (List Int)) => spec_l05All_s1 k K1 (fun h1 h2 h3 h4 h5 => rec (h1, h2, h3, h4, h5)) p.1 p.2.1 p.2.2.1 p.2.2.2.1 p.2.2.2.2) k (h1, h2, h3, h4, h5)

def spec_l05All (k : Nat) (a1 : List Int) : Option ((List Int)) :=
  Option.bind (spec_l01Cells k a1 0) fun x1 =>
    spec_l05All_l1 k
      (fun y2 y3 =>
        some [(rd y3 0), (rd y3 1), (rd y3 2), (rd y3 3), (rd y3 4)])
      a1 0 [0, 0, 0, 0, 0] [0, 0, 0, 0, 0] x1

def spec_LineFor_s0 {R : Type} (k : Nat) (K1 : Int → Option R) (rec : Int → Int → (List Int) → (List Int) → Option R) (h1 : Int) (h2 : Int) (h3 : List Int) (h4 : List Int) : Option R :=
  cond (decide (h2 < 5))
    (cond ((decide (0 ≤ h2)) && (decide (h2 < 5)))
      (cond ((decide (0 ≤ h2)) && (decide (h2 < 5)))
        (rec (IntKind.wrap .i64 (h1 + (IntKind.wrap .i64 ((rd h4 (0 + h2.toNat * 1)) * (IntKind.wrap .i64 (rd h3 (0 + h2.toNat * 1))))))) (IntKind.wrap .i64 (h2 + 1)) h3 h4)
        none)
      none)
    (K1 h1)

def spec_LineFor_l0 {R : Type} (k : Nat) (K1 : Int → Option R) (h1 : Int) (h2 : Int) (h3 : List Int) (h4 : List Int) : Option R :=
  loopF (fun (rec : Int × Int × (List Int) × (List Int) → Option R) (p : Int × Int × (List Int) × (List Int)) => spec_LineFor_s0 k K1 (fun h1 h2 h3 h4 => rec (h1, h2, h3, h4)) p.1 p.2.1 p.2.2.1 p.2.2.2) k (h1, h2, h3, h4)

def spec_LineFor (k : Nat) (a1 : List Int) (a2 : List Int) : Option (Int × Int) :=
  Option.bind (spec_l01Ok k a1) fun x1 =>
    cond (!x1)
      (some (0, 1))
      (Option.bind (spec_l05Wear k a2) fun x2 =>
        cond (!x2)
          (some (0, 1))
          (Option.bind (spec_l05All k a1) fun x3 =>
            spec_LineFor_l0 k
              (fun y4 =>
                some (y4, 0))
              0 0 a2 x3))

def impl_ValidWear_1 (k : Nat) (a1 : Int) : Option (Bool) :=
  Option.bind (impl_within k (IntKind.wrap .i64 a1) 0 100) fun x1 =>
    some (!x1)

def slices_IndexFunc_int8_s0 {R : Type} (k : Nat) (K1 : Int → Option R) (K2 : Option R) (rec : (List Int) → (List Int → Option Bool) → Int → Int → Option R) (h1 : List Int) (h2 : List Int → Option Bool) (h3 : Int) (h4 : Int) : Option R :=
  cond (decide (h4 < h3))
    (cond ((decide (0 ≤ h4)) && (decide (h4 < ((cnt 1 h1) : Int))))
      (Option.bind (h2 [(rd h1 (h4.toNat * 1))]) fun x1 =>
        cond x1
          (K1 h4)
          (rec h1 h2 h3 (IntKind.wrap .i64 (h4 + 1))))
      none)
    (K2)

def slices_IndexFunc_int8_l0 {R : Type} (k : Nat) (K1 : Int → Option R) (K2 : Option R) (h1 : List Int) (h2 : List Int → Option Bool) (h3 : Int) (h4 : Int) : Option R :=
  loopF (fun (rec : (List Int) × (List Int → Option Bool) × Int × Int → Option R) (p : (List Int) × (List Int → Option Bool) × Int × Int) => slices_IndexFunc_int8_s0 k K1 K2 (fun h1 h2 h3 h4 => rec (h1, h2, h3, h4)) p.1 p.2.1 p.2.2.1 p.2.2.2) k (h1, h2, h3, h4)

def slices_IndexFunc_int8 (k : Nat) (a1 : List Int) (a2 : List Int → Option Bool) : Option (Int) :=
  slices_IndexFunc_int8_l0 k
    (fun y1 =>
      some y1)
    (some (-1))
    a1 a2 ((cnt 1 a1) : Int) 0

def slices_ContainsFunc_int8 (k : Nat) (a1 : List Int) (a2 : List Int → Option Bool) : Option (Bool) :=
  Option.bind (slices_IndexFunc_int8 k a1 a2) fun x1 =>
    some (decide (x1 ≥ 0))

def impl_ValidWear (k : Nat) (a1 : List Int) : Option (Bool) :=
  cond ((rd a1 0) == 0)
    (Option.bind (slices_ContainsFunc_int8 k (win a1 0 5) (fun z1 => (impl_ValidWear_1 k (rd z1 0)).bind fun b => some b)) fun x2 =>
      some (!x2))
    (some false)

def impl_Lawn_those_1 (k : Nat) (a1 : List Int) (a2 : List Int → Option Bool) : Option (Bool) :=
  Option.bind (a2 [(rd a1 0), (rd a1 1)]) fun x1 =>
    some (!x1)

def slices_DeleteFunc_impl_Cell_s0 {R : Type} (k : Nat) (K1 : Int → (List Int) → Option R) (rec : (List Int → Option Bool) → Int → Int → (List Int) → Option R) (h1 : List Int → Option Bool) (h2 : Int) (h3 : Int) (h4 : List Int) : Option R :=
  cond (decide (h3 < ((cnt 2 h4) : Int)))
    (cond ((decide (0 ≤ h3)) && (decide (h3 < ((cnt 2 h4) : Int))))
      (Option.bind (h1 [(rd h4 (h3.toNat * 2)), (rd h4 ((h3.toNat * 2) + 1))]) fun x1 =>
        cond (!x1)
          (cond ((decide (0 ≤ h2)) && (decide (h2 < ((cnt 2 h4) : Int))))
            (rec h1 (IntKind.wrap .i64 (h2 + 1)) (IntKind.wrap .i64 (h3 + 1)) (setWin h4 (h2.toNat * 2) 2 [(rd h4 (h3.toNat * 2)), (rd h4 ((h3.toNat * 2) + 1))]))
            none)
          (rec h1 h2 (IntKind.wrap .i64 (h3 + 1)) h4))
      none)
    (K1 h2 h4)

def slices_DeleteFunc_impl_Cell_l0 {R : Type} (k : Nat) (K1 : Int → (List Int) → Option R) (h1 : List Int → Option Bool) (h2 : Int) (h3 : Int) (h4 : List Int) : Option R :=
  loopF (fun (rec : (List Int → Option Bool) × Int × Int × (List Int) → Option R) (p : (List Int → Option Bool) × Int × Int × (List Int)) => slices_DeleteFunc_impl_Cell_s0 k K1 (fun h1 h2 h3 h4 => rec (h1, h2, h3, h4)) p.1 p.2.1 p.2.2.1 p.2.2.2) k (h1, h2, h3, h4)

def slices_DeleteFunc_impl_Cell (k : Nat) (a1 : List Int) (a2 : List Int → Option Bool) : Option ((List Int)) :=
  Option.bind (slices_IndexFunc_impl_Cell k a1 a2) fun x1 =>
    cond (x1 == (-1))
      (some a1)
      (slices_DeleteFunc_impl_Cell_l0 k
        (fun y2 y3 =>
          cond ((decide (0 ≤ y2)) && (decide (y2 ≤ ((cnt 2 y3) : Int))))
            (cond ((decide (0 ≤ y2)) && (decide (y2 ≤ (((cnt 2 (setWin y3 (y2.toNat * 2) (((cnt 2 y3) - y2.toNat) * 2) (List.replicate (((cnt 2 y3) - y2.toNat) * 2) 0))) : Nat) : Int))))
              (some (win (setWin y3 (y2.toNat * 2) (((cnt 2 y3) - y2.toNat) * 2) (List.replicate (((cnt 2 y3) - y2.toNat) * 2) 0)) 0 (y2.toNat * 2)))
              none)
            none)
        a2 x1 (IntKind.wrap .i64 (x1 + 1)) a1)

def impl_Lawn_those (k : Nat) (a1 : List Int) (a2 : List Int → Option Bool) : Option ((List Int)) :=
  Option.bind (impl_Lawn_all k a1) fun x1 =>
    Option.bind (slices_DeleteFunc_impl_Cell k x1 (fun z2 => (impl_Lawn_those_1 k [(rd z2 0), (rd z2 1)] a2).bind fun b => some b)) fun x3 =>
      some x3

def impl_beside (k : Nat) (a1 : List Int) : Option ((List Int)) :=
  some [(rd a1 0), (IntKind.wrap .i8 ((rd a1 1) - 1)), (IntKind.wrap .i8 ((rd a1 0) - 1)), (rd a1 1), (IntKind.wrap .i8 ((rd a1 0) + 1)), (rd a1 1), (rd a1 0), (IntKind.wrap .i8 ((rd a1 1) + 1))]

def impl_Lawn_around_s0 {R : Type} (k : Nat) (K1 : (List Int) → (List Int) → Option R) (rec : Int → Int → (List Int) → (List Int) → (List Int) → (List Int) → Option R) (h1 : Int) (h2 : Int) (h3 : List Int) (h4 : List Int) (h5 : List Int) (h6 : List Int) : Option R :=
  cond (decide (h2 < h1))
    (cond ((decide (0 ≤ h2)) && (decide (h2 < ((cnt 2 h6) : Int))))
      (Option.bind (impl_Lawn_has k h3 [(rd h6 (h2.toNat * 2)), (rd h6 ((h2.toNat * 2) + 1))]) fun x1 =>
        cond x1
          (Option.bind (impl_Lawn_kind k h3 [(rd h6 (h2.toNat * 2)), (rd h6 ((h2.toNat * 2) + 1))]) fun x2 =>
            cond ((decide (0 ≤ x2)) && (decide (x2 < 5)))
              (cond ((decide (0 ≤ x2)) && (decide (x2 < 5)))
                (rec h1 (IntKind.wrap .i64 (h2 + 1)) h3 h4 (List.set h5 (0 + x2.toNat * 1) (IntKind.wrap .i64 ((rd h5 (0 + x2.toNat * 1)) + 1))) h6)
                none)
              none)
          (rec h1 (IntKind.wrap .i64 (h2 + 1)) h3 h4 (List.set h5 4 (IntKind.wrap .i64 ((rd h5 4) + 1))) h6))
      none)
    (K1 h4 h5)

def impl_Lawn_around_l0 {R : Type} (k : Nat) (K1 : (List Int) → (List Int) → Option R) (h1 : Int) (h2 : Int) (h3 : List Int) (h4 : List Int) (h5 : List Int) (h6 : List Int) : Option R :=
  loopF (fun (rec : Int × Int × (List Int) × (List Int) × (List Int) × (List Int) → Option R) (p : Int × Int × (List Int) × (List Int) × (List Int) × (List Int)) => impl_Lawn_around_s0 k K1 (fun h1 h2 h3 h4 h5 h6 => rec (h1, h2, h3, h4, h5, h6)) p.1 p.2.1 p.2.2.1 p.2.2.2.1 p.2.2.2.2.1 p.2.2.2.2.2) k (h1, h2, h3, h4, h5, h6)

def impl_Lawn_around (k : Nat) (a1 : List Int) (a2 : List Int) : Option ((List Int)) :=
  Option.bind (impl_beside k [(rd a2 0), (rd a2 1)]) fun x1 =>
    impl_Lawn_around_l0 k
      (fun y2 y3 =>
        some [(rd y3 0), (rd y3 1), (rd y3 2), (rd y3 3), (rd y3 4)])
      ((cnt 2 x1) : Int) 0 a1 [0, 0, 0, 0, 0] [0, 0, 0, 0, 0] x1

def impl_Lawn_sides_s0 {R : Type} (k : Nat) (K1 : Int → Int → (List Int) → (List Int) → (List Int) → (List Int) → Option R) (rec : Int → Int → (List Int) → Int → (List Int) → (List Int) → (List Int) → (List Int) → Option R) (h1 : Int) (h2 : Int) (h3 : List Int) (h4 : Int) (h5 : List Int) (h6 : List Int) (h7 : List Int) (h8 : List Int) : Option R :=
  cond (decide (h4 < 5))
    (cond ((decide (0 ≤ h4)) && (decide (h4 < 5)))
      (cond ((decide (0 ≤ h4)) && (decide (h4 < 5)))
        (cond ((decide (0 ≤ h4)) && (decide (h4 < 5)))
          (rec h1 h2 h3 (IntKind.wrap .i64 (h4 + 1)) h5 h6 (List.set h7 (0 + h4.toNat * 1) (IntKind.wrap .i64 ((rd h7 (0 + h4.toNat * 1)) + (rd h3 (h4.toNat * 1))))) h8)
          none)
        none)
      none)
    (K1 h1 h2 h5 h6 h7 h8)

def impl_Lawn_sides_l0 {R : Type} (k : Nat) (K1 : Int → Int → (List Int) → (List Int) → (List Int) → (List Int) → Option R) (h1 : Int) (h2 : Int) (h3 : List Int) (h4 : Int) (h5 : List Int) (h6 : List Int) (h7 : List Int) (h8 : List Int) : Option R :=
  loopF (fun (rec : Int × Int × (List Int) × Int × (List Int) × (List Int) × (List Int) × (List Int) → Option R) (p : Int × Int × (List Int) × Int × (List Int) × (List Int) × (List Int) × (List Int)) => impl_Lawn_sides_s0 k K1 (fun h1 h2 h3 h4 h5 h6 h7 h8 => rec (h1, h2, h3, h4, h5, h6, h7, h8)) p.1 p.2.1 p.2.2.1 p.2.2.2.1 p.2.2.2.2.1 p.2.2.2.2.2.1 p.2.2.2.2.2.2.1 p.2.2.2.2.2.2.2) k (h1, h2, h3, h4, h5, h6, h7, h8)

def impl_Lawn_sides_s1 {R : Type} (k : Nat) (K1 : (List Int) → (List Int) → Option R) (rec : Int → Int → (List Int) → (List Int) → (List Int) → (List Int) → Option R) (h1 : Int) (h2 : Int) (h3 : List Int) (h4 : List Int) (h5 : List Int) (h6 : List Int) : Option R :=
  cond (decide (h2 < h1))
    (cond ((decide (0 ≤ h2)) && (decide (h2 < ((cnt 2 h6) : Int))))
      (Option.bind (impl_Lawn_around k h3 [(rd h6 (h2.toNat * 2)), (rd h6 ((h2.toNat * 2) + 1))]) fun x1 =>
        impl_Lawn_sides_l0 k
          (fun y2 y3 y4 y5 y6 y7 =>
            rec y2 (IntKind.wrap .i64 (y3 + 1)) y4 y5 y6 y7)
          h1 h2 x1 0 h3 h4 h5 h6)
      none)
    (K1 h4 h5)

def impl_Lawn_sides_l1 {R : Type} (k : Nat) (K1 : (List Int) → (List Int) → Option R) (h1 : Int) (h2 : Int) (h3 : List Int) (h4 : List Int) (h5 : List Int) (h6 : List Int) : Option R :=
  loopF (fun (rec : Int × Int × (List Int) × (List Int) × (List Int) × (List Int) → Option R) (p : Int × Int × (List Int) × (List Int) × (List Int) × (List Int)) => impl_Lawn_sides_s1 k K1 (fun h1 h2 h3 h4 h5 h6 => rec (h1, h2, h3, h4, h5, h6)) p.1 p.2.1 p.2.2.1 p.2.2.2.1 p.2.2.2.2.1 p.2.2.2.2.2) k (h1, h2, h3, h4, h5, h6)

def impl_Lawn_sides (k : Nat) (a1 : List Int) : Option ((List Int)) :=
  Option.bind (impl_Lawn_those k a1 (fun z1 => (impl_Lawn_grass k a1 [(rd z1 0), (rd z1 1)]).bind fun b => some b)) fun x2 =>
    impl_Lawn_sides_l1 k
      (fun y3 y4 =>
        some [(rd y4 0), (rd y4 1), (rd y4 2), (rd y4 3), (rd y4 4)])
      ((cnt 2 x2) : Int) 0 a1 [0, 0, 0, 0, 0] [0, 0, 0, 0, 0] x2

def impl_LineFor_s0 {R : Type} (k : Nat) (K1 : Int → Option R) (rec : Int → (List Int) → Int → (List Int) → Option R) (h1 : Int) (h2 : List Int) (h3 : Int) (h4 : List Int) : Option R :=
  cond (decide (h3 < 5))
    (cond ((decide (0 ≤ h3)) && (decide (h3 < 5)))
      (cond ((decide (0 ≤ h3)) && (decide (h3 < 5)))
        (rec (IntKind.wrap .i64 (h1 + (IntKind.wrap .i64 ((rd h2 (h3.toNat * 1)) * (IntKind.wrap .i64 (rd h4 (0 + h3.toNat * 1))))))) h2 (IntKind.wrap .i64 (h3 + 1)) h4)
        none)
      none)
    (K1 h1)

def impl_LineFor_l0 {R : Type} (k : Nat) (K1 : Int → Option R) (h1 : Int) (h2 : List Int) (h3 : Int) (h4 : List Int) : Option R :=
  loopF (fun (rec : Int × (List Int) × Int × (List Int) → Option R) (p : Int × (List Int) × Int × (List Int)) => impl_LineFor_s0 k K1 (fun h1 h2 h3 h4 => rec (h1, h2, h3, h4)) p.1 p.2.1 p.2.2.1 p.2.2.2) k (h1, h2, h3, h4)

def impl_LineFor (k : Nat) (a1 : List Int) (a2 : List Int) : Option (Int × Int) :=
  Option.bind (impl_ValidLawn k a1) fun x1 =>
    cond (!x1)
      (some (0, 1))
      (Option.bind (impl_ValidWear k [(rd a2 0), (rd a2 1), (rd a2 2), (rd a2 3), (rd a2 4)]) fun x2 =>
        cond (!x2)
          (some (0, 1))
          (Option.bind (impl_Lawn_sides k a1) fun x3 =>
            impl_LineFor_l0 k
              (fun y4 =>
                some (y4, 0))
              0 x3 0 a2))

def laws_FnExactLineFor (k : Nat) (a1 : List Int) (a2 : List Int) : Option (Bool) :=
  Option.bind (laws_toLawn k a1) fun x1 =>
    Option.bind (laws_toWear k [(rd a2 0), (rd a2 1), (rd a2 2), (rd a2 3), (rd a2 4)]) fun x2 =>
      Option.bind (spec_LineFor k x1 x2) fun x3 =>
        Option.bind (laws_toLawn k a1) fun x4 =>
          Option.bind (laws_toWear k [(rd a2 0), (rd a2 1), (rd a2 2), (rd a2 3), (rd a2 4)]) fun x5 =>
            Option.bind (impl_LineFor k x4 x5) fun x6 =>
              cond (x6.1 != x3.1)
                (some false)
                (cond (x6.2 != x3.2)
                  (some false)
                  (some true))

def spec_l05With (k : Nat) (a1 : List Int) (a2 : List Int) (a3 : Int) : Option ((List Int)) :=
  cond ((decide (0 ≤ (rd a2 1))) && (decide ((rd a2 1) < 10)))
    (cond ((decide (0 ≤ (rd a2 0))) && (decide ((rd a2 0) < 10)))
      (some (List.set a1 ((2 + (rd a2 1).toNat * 10) + (rd a2 0).toNat * 1) a3))
      none)
    none

def spec_RoundOff_s0 {R : Type} (k : Nat) (K1 : Int → Bool → (List Int) → (List Int) → Option R) (rec : Int → Bool → Int → (List Int) → (List Int) → (List Int) → Option R) (h1 : Int) (h2 : Bool) (h3 : Int) (h4 : List Int) (h5 : List Int) (h6 : List Int) : Option R :=
  cond (decide (h3 < ((cnt 2 h6) : Int)))
    (cond (!h2)
      (cond ((decide (0 ≤ h3)) && (decide (h3 < ((cnt 2 h6) : Int))))
        (Option.bind (spec_l05At k h4 [(rd h6 (h3.toNat * 2)), (rd h6 ((h3.toNat * 2) + 1))]) fun x1 =>
          cond (decide ((rd x1 0) ≥ 3))
            (cond ((decide (0 ≤ h3)) && (decide (h3 < ((cnt 2 h6) : Int))))
              (Option.bind (spec_l05With k h4 [(rd h6 (h3.toNat * 2)), (rd h6 ((h3.toNat * 2) + 1))] 0) fun x2 =>
                rec (IntKind.wrap .i64 (h1 + 1)) true (IntKind.wrap .i64 (h3 + 1)) x2 h5 h6)
              none)
            (rec h1 h2 (IntKind.wrap .i64 (h3 + 1)) h4 h5 h6))
        none)
      (K1 h1 h2 h4 h5))
    (K1 h1 h2 h4 h5)

def spec_RoundOff_l0 {R : Type} (k : Nat) (K1 : Int → Bool → (List Int) → (List Int) → Option R) (h1 : Int) (h2 : Bool) (h3 : Int) (h4 : List Int) (h5 : List Int) (h6 : List Int) : Option R :=
  loopF (fun (rec : Int × Bool × Int × (List Int) × (List Int) × (List Int) → Option R) (p : Int × Bool × Int × (List Int) × (List Int) × (List Int)) => spec_RoundOff_s0 k K1 (fun h1 h2 h3 h4 h5 h6 => rec (h1, h2, h3, h4, h5, h6)) p.1 p.2.1 p.2.2.1 p.2.2.2.1 p.2.2.2.2.1 p.2.2.2.2.2) k (h1, h2, h3, h4, h5, h6)

def spec_RoundOff_s1 {R : Type} (k : Nat) (K1 : Int → (List Int) → (List Int) → Option R) (rec : Int → Bool → (List Int) → (List Int) → Option R) (h1 : Int) (h2 : Bool) (h3 : List Int) (h4 : List Int) : Option R :=
  cond h2
    (Option.bind (spec_l01Cells k h3 1) fun x1 =>
      spec_RoundOff_l0 k
        (fun y2 y3 y4 y5 =>
          rec y2 y3 y4 y5)
        h1 false 0 h3 h4 x1)
    (K1 h1 h3 h4)

def spec_RoundOff_l1 {R : Type} (k : Nat) (K1 : Int → (List Int) → (List Int) → Option R) (h1 : Int) (h2 : Bool) (h3 : List Int) (h4 : List Int) : Option R :=
  loopF (fun (rec : Int × Bool × (List Int) × (List Int) → Option R) (p : Int × Bool × (List Int) × (List Int)) => spec_RoundOff_s1 k K1 (fun h1 h2 h3 h4 => rec (h1, h2, h3, h4)) p.1 p.2.1 p.2.2.1 p.2.2.2) k (h1, h2, h3, h4)

def spec_RoundOff (k : Nat) (a1 : List Int) : Option ((List Int) × Int × Int) :=
  Option.bind (spec_l01Ok k a1) fun x1 =>
    cond (!x1)
      (some ((List.replicate 102 0), 0, 1))
      (spec_RoundOff_l1 k
        (fun y2 y3 y4 =>
          some (y3, y2, 0))
        0 true a1 (List.replicate 102 0))

def impl_RoundOff_1 (k : Nat) (a1 : List Int) (a2 : List Int) : Option (Bool) :=
  Option.bind (impl_Lawn_is k a2 [(rd a1 0), (rd a1 1)] 1) fun x1 =>
    cond x1
      (Option.bind (impl_Lawn_around k a2 [(rd a1 0), (rd a1 1)]) fun x2 =>
        some (decide ((rd x2 0) ≥ 3)))
      (some false)

def impl_Lawn_turned (k : Nat) (a1 : List Int) (a2 : List Int) (a3 : Int) : Option ((List Int)) :=
  cond ((decide (0 ≤ (rd a2 1))) && (decide ((rd a2 1) < 10)))
    (cond ((decide (0 ≤ (rd a2 0))) && (decide ((rd a2 0) < 10)))
      (some (List.set a1 ((2 + (rd a2 1).toNat * 10) + (rd a2 0).toNat * 1) a3))
      none)
    none

def impl_RoundOff_s0 {R : Type} (k : Nat) (K1 : Int → Int → (List Int) → Option R) (rec : Int → (List Int) → (List Int) → Option R) (h1 : Int) (h2 : List Int) (h3 : List Int) : Option R :=
  Option.bind (impl_Lawn_those k h2 (fun z1 => (impl_RoundOff_1 k [(rd z1 0), (rd z1 1)] h2).bind fun b => some b)) fun x2 =>
    cond (((cnt 2 x2) : Int) == 0)
      (K1 h1 0 h2)
      (cond (decide (0 < ((cnt 2 x2) : Int)))
        (Option.bind (impl_Lawn_turned k h2 [(rd x2 0), (rd x2 1)] 0) fun x3 =>
          rec (IntKind.wrap .i64 (h1 + 1)) x3 h3)
        none)

def impl_RoundOff_l0 {R : Type} (k : Nat) (K1 : Int → Int → (List Int) → Option R) (h1 : Int) (h2 : List Int) (h3 : List Int) : Option R :=
  loopF (fun (rec : Int × (List Int) × (List Int) → Option R) (p : Int × (List Int) × (List Int)) => impl_RoundOff_s0 k K1 (fun h1 h2 h3 => rec (h1, h2, h3)) p.1 p.2.1 p.2.2) k (h1, h2, h3)

def impl_RoundOff (k : Nat) (a1 : List Int) : Option ((List Int) × Int × Int) :=
  Option.bind (impl_ValidLawn k a1) fun x1 =>
    cond (!x1)
      (some ((List.replicate 102 0), 0, 1))
      (impl_RoundOff_l0 k
        (fun y2 y3 y4 =>
          some (y4, y2, y3))
        0 a1 (List.replicate 102 0))

def laws_eqByteA10_s0 {R : Type} (k : Nat) (K1 : Bool → Option R) (K2 : Option R) (rec : Int → (List Int) → (List Int) → Option R) (h1 : Int) (h2 : List Int) (h3 : List Int) : Option R :=
  cond (decide (h1 < 10))
    (cond ((decide (0 ≤ h1)) && (decide (h1 < 10)))
      (cond ((decide (0 ≤ h1)) && (decide (h1 < 10)))
        (cond ((rd h2 (0 + h1.toNat * 1)) != (rd h3 (0 + h1.toNat * 1)))
          (K1 false)
          (rec (IntKind.wrap .i64 (h1 + 1)) h2 h3))
        none)
      none)
    (K2)

def laws_eqByteA10_l0 {R : Type} (k : Nat) (K1 : Bool → Option R) (K2 : Option R) (h1 : Int) (h2 : List Int) (h3 : List Int) : Option R :=
  loopF (fun (rec : Int × (List Int) × (List Int) → Option R) (p : Int × (List Int) × (List Int)) => laws_eqByteA10_s0 k K1 K2 (fun h1 h2 h3 => rec (h1, h2, h3)) p.1 p.2.1 p.2.2) k (h1, h2, h3)

def laws_eqByteA10 (k : Nat) (a1 : List Int) (a2 : List Int) : Option (Bool) :=
  laws_eqByteA10_l0 k
    (fun y1 =>
      some y1)
    (some true)
    0 a1 a2

def laws_eqByteA10A10_s0 {R : Type} (k : Nat) (K1 : Bool → Option R) (K2 : Option R) (rec : Int → (List Int) → (List Int) → Option R) (h1 : Int) (h2 : List Int) (h3 : List Int) : Option R :=
  cond (decide (h1 < 10))
    (cond ((decide (0 ≤ h1)) && (decide (h1 < 10)))
      (cond ((decide (0 ≤ h1)) && (decide (h1 < 10)))
        (Option.bind (laws_eqByteA10 k (win h2 (0 + h1.toNat * 10) 10) (win h3 (0 + h1.toNat * 10) 10)) fun x1 =>
          cond (!x1)
            (K1 false)
            (rec (IntKind.wrap .i64 (h1 + 1)) h2 h3))
        none)
      none)
    (K2)

def laws_eqByteA10A10_l0 {R : Type} (k : Nat) (K1 : Bool → Option R) (K2 : Option R) (h1 : Int) (h2 : List Int) (h3 : List Int) : Option R :=
  loopF (fun (rec : Int × (List Int) × (List Int) → Option R) (p : Int × (List Int) × (List Int)) => laws_eqByteA10A10_s0 k K1 K2 (fun h1 h2 h3 => rec (h1, h2, h3)) p.1 p.2.1 p.2.2) k (h1, h2, h3)

def laws_eqByteA10A10 (k : Nat) (a1 : List Int) (a2 : List Int) : Option (Bool) :=
  laws_eqByteA10A10_l0 k
    (fun y1 =>
      some y1)
    (some true)
    0 a1 a2

def laws_eqLawn (k : Nat) (a1 : List Int) (a2 : List Int) : Option (Bool) :=
  cond ((rd a1 0) != (rd a2 0))
    (some false)
    (cond ((rd a1 1) != (rd a2 1))
      (some false)
      (Option.bind (laws_eqByteA10A10 k (win a1 2 100) (win a2 2 100)) fun x1 =>
        cond (!x1)
          (some false)
          (some true)))

def laws_FnExactRoundOff (k : Nat) (a1 : List Int) : Option (Bool) :=
  Option.bind (laws_toLawn k a1) fun x1 =>
    Option.bind (spec_RoundOff k x1) fun x2 =>
      Option.bind (laws_toLawn k a1) fun x3 =>
        Option.bind (impl_RoundOff k x3) fun x4 =>
          Option.bind (laws_eqLawn k x4.1 x2.1) fun x5 =>
            cond (!x5)
              (some false)
              (cond (x4.2.1 != x2.2.1)
                (some false)
                (cond (x4.2.2 != x2.2.2)
                  (some false)
                  (some true)))

def spec_l05Border_s0 {R : Type} (k : Nat) (K1 : (List Int) → Option R) (rec : (List Int) → Bool → Int → (List Int) → (List Int) → Option R) (h1 : List Int) (h2 : Bool) (h3 : Int) (h4 : List Int) (h5 : List Int) : Option R :=
  cond (decide (h3 < ((cnt 2 h5) : Int)))
    (cond ((decide (0 ≤ h3)) && (decide (h3 < ((cnt 2 h5) : Int))))
      (Option.bind (spec_l05At k h1 [(rd h5 (h3.toNat * 2)), (rd h5 ((h3.toNat * 2) + 1))]) fun x1 =>
        cond ((decide ((rd x1 0) < 4)) == h2)
          (cond ((decide (0 ≤ h3)) && (decide (h3 < ((cnt 2 h5) : Int))))
            (cond (decide (h4.length + 2 ≤ bigLen))
              (rec h1 h2 (IntKind.wrap .i64 (h3 + 1)) (h4 ++ [(rd h5 (h3.toNat * 2)), (rd h5 ((h3.toNat * 2) + 1))]) h5)
              none)
            none)
          (rec h1 h2 (IntKind.wrap .i64 (h3 + 1)) h4 h5))
      none)
    (K1 h4)

def spec_l05Border_l0 {R : Type} (k : Nat) (K1 : (List Int) → Option R) (h1 : List Int) (h2 : Bool) (h3 : Int) (h4 : List Int) (h5 : List Int) : Option R :=
  loopF (fun (rec : (List Int) × Bool × Int × (List Int) × (List Int) → Option R) (p : (List Int) × Bool × Int × (List Int) × (List Int)) => spec_l05Border_s0 k K1 (fun h1 h2 h3 h4 h5 => rec (h1, h2, h3, h4, h5)) p.1 p.2.1 p.2.2.1 p.2.2.2.1 p.2.2.2.2) k (h1, h2, h3, h4, h5)

def spec_l05Border (k : Nat) (a1 : List Int) (a2 : Bool) : Option ((List Int)) :=
  Option.bind (spec_l01Cells k a1 0) fun x1 =>
    spec_l05Border_l0 k
      (fun y2 =>
        some y2)
      a1 a2 0 [] x1

def spec_BorderOf (k : Nat) (a1 : List Int) : Option ((List Int) × Int) :=
  Option.bind (spec_l01Ok k a1) fun x1 =>
    cond (!x1)
      (some ([], 1))
      (Option.bind (spec_l05Border k a1 true) fun x2 =>
        some (x2, 0))

def impl_Lawn_isBorder (k : Nat) (a1 : List Int) (a2 : List Int) : Option (Bool) :=
  Option.bind (impl_Lawn_grass k a1 [(rd a2 0), (rd a2 1)]) fun x1 =>
    cond x1
      (Option.bind (impl_Lawn_around k a1 [(rd a2 0), (rd a2 1)]) fun x2 =>
        some (decide ((rd x2 0) < 4)))
      (some false)

def impl_BorderOf (k : Nat) (a1 : List Int) : Option ((List Int) × Int) :=
  Option.bind (impl_ValidLawn k a1) fun x1 =>
    cond (!x1)
      (some ([], 1))
      (Option.bind (impl_Lawn_those k a1 (fun z2 => (impl_Lawn_isBorder k a1 [(rd z2 0), (rd z2 1)]).bind fun b => some b)) fun x3 =>
        some (x3, 0))

def laws_eqCellS_s0 {R : Type} (k : Nat) (K1 : Bool → Option R) (K2 : Option R) (rec : (List Int) → (List Int) → Int → Option R) (h1 : List Int) (h2 : List Int) (h3 : Int) : Option R :=
  cond (decide (h3 < ((cnt 2 h1) : Int)))
    (cond ((decide (0 ≤ h3)) && (decide (h3 < ((cnt 2 h1) : Int))))
      (cond ((decide (0 ≤ h3)) && (decide (h3 < ((cnt 2 h2) : Int))))
        (Option.bind (laws_eqCell k [(rd h1 (h3.toNat * 2)), (rd h1 ((h3.toNat * 2) + 1))] [(rd h2 (h3.toNat * 2)), (rd h2 ((h3.toNat * 2) + 1))]) fun x1 =>
          cond (!x1)
            (K1 false)
            (rec h1 h2 (IntKind.wrap .i64 (h3 + 1))))
        none)
      none)
    (K2)

def laws_eqCellS_l0 {R : Type} (k : Nat) (K1 : Bool → Option R) (K2 : Option R) (h1 : List Int) (h2 : List Int) (h3 : Int) : Option R :=
  loopF (fun (rec : (List Int) × (List Int) × Int → Option R) (p : (List Int) × (List Int) × Int) => laws_eqCellS_s0 k K1 K2 (fun h1 h2 h3 => rec (h1, h2, h3)) p.1 p.2.1 p.2.2) k (h1, h2, h3)

def laws_eqCellS (k : Nat) (a1 : List Int) (a2 : List Int) : Option (Bool) :=
  cond (((cnt 2 a1) : Int) != ((cnt 2 a2) : Int))
    (some false)
    (laws_eqCellS_l0 k
      (fun y1 =>
        some y1)
      (some true)
      a1 a2 0)

def laws_markCellS_s0 {R : Type} (k : Nat) (K1 : Int → (List Int) → Option R) (rec : Int → Int → (List Int) → Option R) (h1 : Int) (h2 : Int) (h3 : List Int) : Option R :=
  cond (decide (h2 < ((cnt 2 h3) : Int)))
    (cond ((decide (0 ≤ h2)) && (decide (h2 < ((cnt 2 h3) : Int))))
      (cond ((decide (0 ≤ h2)) && (decide (h2 < (((cnt 2 (List.set h3 (h2.toNat * 2) (IntKind.wrap .i8 h1))) : Nat) : Int))))
        (rec (IntKind.wrap .i64 ((IntKind.wrap .i64 (h1 + 1)) + 1)) (IntKind.wrap .i64 (h2 + 1)) (List.set (List.set h3 (h2.toNat * 2) (IntKind.wrap .i8 h1)) ((h2.toNat * 2) + 1) (IntKind.wrap .i8 (IntKind.wrap .i64 (h1 + 1)))))
        none)
      none)
    (K1 h1 h3)

def laws_markCellS_l0 {R : Type} (k : Nat) (K1 : Int → (List Int) → Option R) (h1 : Int) (h2 : Int) (h3 : List Int) : Option R :=
  loopF (fun (rec : Int × Int × (List Int) → Option R) (p : Int × Int × (List Int)) => laws_markCellS_s0 k K1 (fun h1 h2 h3 => rec (h1, h2, h3)) p.1 p.2.1 p.2.2) k (h1, h2, h3)

def laws_markCellS (k : Nat) (a1 : List Int) (a2 : Int) : Option ((Int) × List Int) :=
  laws_markCellS_l0 k
    (fun y1 y2 =>
      some (y1, y2))
    a2 0 a1

def laws_heldCellS_s0 {R : Type} (k : Nat) (K1 : Int → Option R) (K2 : Int → Option R) (rec : (List Int) → Int → Int → Option R) (h1 : List Int) (h2 : Int) (h3 : Int) : Option R :=
  cond (decide (h3 < ((cnt 2 h1) : Int)))
    (cond ((decide (0 ≤ h3)) && (decide (h3 < ((cnt 2 h1) : Int))))
      (cond ((rd h1 (h3.toNat * 2)) != (IntKind.wrap .i8 h2))
        (K1 (-1))
        (cond ((decide (0 ≤ h3)) && (decide (h3 < ((cnt 2 h1) : Int))))
          (cond ((rd h1 ((h3.toNat * 2) + 1)) != (IntKind.wrap .i8 (IntKind.wrap .i64 (h2 + 1))))
            (K1 (-1))
            (rec h1 (IntKind.wrap .i64 ((IntKind.wrap .i64 (h2 + 1)) + 1)) (IntKind.wrap .i64 (h3 + 1))))
          none))
      none)
    (K2 h2)

def laws_heldCellS_l0 {R : Type} (k : Nat) (K1 : Int → Option R) (K2 : Int → Option R) (h1 : List Int) (h2 : Int) (h3 : Int) : Option R :=
  loopF (fun (rec : (List Int) × Int × Int → Option R) (p : (List Int) × Int × Int) => laws_heldCellS_s0 k K1 K2 (fun h1 h2 h3 => rec (h1, h2, h3)) p.1 p.2.1 p.2.2) k (h1, h2, h3)

def laws_heldCellS (k : Nat) (a1 : List Int) (a2 : Int) : Option (Int) :=
  laws_heldCellS_l0 k
    (fun y1 =>
      some y1)
    (fun y2 =>
      some y2)
    a1 a2 0

def laws_FnExactBorderOf (k : Nat) (a1 : List Int) : Option (Bool) :=
  Option.bind (laws_toLawn k a1) fun x1 =>
    Option.bind (spec_BorderOf k x1) fun x2 =>
      Option.bind (laws_toLawn k a1) fun x3 =>
        Option.bind (impl_BorderOf k x3) fun x4 =>
          Option.bind (laws_eqCellS k x4.1 x2.1) fun x5 =>
            cond (!x5)
              (some false)
              (cond (x4.2 != x2.2)
                (some false)
                (Option.bind (laws_markCellS k x4.1 1) fun x6 =>
                  Option.bind (laws_heldCellS k x6.2 1) fun x7 =>
                    cond (decide (x7 < 0))
                      (some false)
                      (cond (x7 != x6.1)
                        (some false)
                        (Option.bind (laws_toLawn k a1) fun x8 =>
                          Option.bind (impl_BorderOf k x8) fun x9 =>
                            Option.bind (laws_eqCellS k x9.1 x2.1) fun x10 =>
                              cond (!x10)
                                (some false)
                                (cond (x9.2 != x2.2)
                                  (some false)
                                  (Option.bind (laws_heldCellS k x6.2 1) fun x11 =>
                                    cond (decide (x11 < 0))
                                      (some false)
                                      (cond (x11 != x6.1)
                                        (some false)
                                        (some true))))))))

def spec_InnerOf (k : Nat) (a1 : List Int) : Option ((List Int) × Int) :=
  Option.bind (spec_l01Ok k a1) fun x1 =>
    cond (!x1)
      (some ([], 1))
      (Option.bind (spec_l05Border k a1 false) fun x2 =>
        some (x2, 0))

def impl_InnerOf_1 (k : Nat) (a1 : List Int) (a2 : List Int) : Option (Bool) :=
  Option.bind (impl_Lawn_grass k a2 [(rd a1 0), (rd a1 1)]) fun x1 =>
    cond x1
      (Option.bind (impl_Lawn_isBorder k a2 [(rd a1 0), (rd a1 1)]) fun x2 =>
        some (!x2))
      (some false)

def impl_InnerOf (k : Nat) (a1 : List Int) : Option ((List Int) × Int) :=
  Option.bind (impl_ValidLawn k a1) fun x1 =>
    cond (!x1)
      (some ([], 1))
      (Option.bind (impl_Lawn_those k a1 (fun z2 => (impl_InnerOf_1 k [(rd z2 0), (rd z2 1)] a1).bind fun b => some b)) fun x3 =>
        some (x3, 0))

def laws_FnExactInnerOf (k : Nat) (a1 : List Int) : Option (Bool) :=
  Option.bind (laws_toLawn k a1) fun x1 =>
    Option.bind (spec_InnerOf k x1) fun x2 =>
      Option.bind (laws_toLawn k a1) fun x3 =>
        Option.bind (impl_InnerOf k x3) fun x4 =>
          Option.bind (laws_eqCellS k x4.1 x2.1) fun x5 =>
            cond (!x5)
              (some false)
              (cond (x4.2 != x2.2)
                (some false)
                (Option.bind (laws_markCellS k x4.1 1) fun x6 =>
                  Option.bind (laws_heldCellS k x6.2 1) fun x7 =>
                    cond (decide (x7 < 0))
                      (some false)
                      (cond (x7 != x6.1)
                        (some false)
                        (Option.bind (laws_toLawn k a1) fun x8 =>
                          Option.bind (impl_InnerOf k x8) fun x9 =>
                            Option.bind (laws_eqCellS k x9.1 x2.1) fun x10 =>
                              cond (!x10)
                                (some false)
                                (cond (x9.2 != x2.2)
                                  (some false)
                                  (Option.bind (laws_heldCellS k x6.2 1) fun x11 =>
                                    cond (decide (x11 < 0))
                                      (some false)
                                      (cond (x11 != x6.1)
                                        (some false)
                                        (some true))))))))

def laws_toInt8A10_s0 {R : Type} (k : Nat) (K1 : (List Int) → (List Int) → Option R) (rec : Int → (List Int) → (List Int) → (List Int) → Option R) (h1 : Int) (h2 : List Int) (h3 : List Int) (h4 : List Int) : Option R :=
  cond (decide (h1 < 10))
    (cond ((decide (0 ≤ h1)) && (decide (h1 < 10)))
      (cond ((decide (0 ≤ h1)) && (decide (h1 < 10)))
        (rec (IntKind.wrap .i64 (h1 + 1)) h2 h3 (List.set h4 (0 + h1.toNat * 1) (rd h2 (0 + h1.toNat * 1))))
        none)
      none)
    (K1 h3 h4)

def laws_toInt8A10_l0 {R : Type} (k : Nat) (K1 : (List Int) → (List Int) → Option R) (h1 : Int) (h2 : List Int) (h3 : List Int) (h4 : List Int) : Option R :=
  loopF (fun (rec : Int × (List Int) × (List Int) × (List Int) → Option R) (p : Int × (List Int) × (List Int) × (List Int)) => laws_toInt8A10_s0 k K1 (fun h1 h2 h3 h4 => rec (h1, h2, h3, h4)) p.1 p.2.1 p.2.2.1 p.2.2.2) k (h1, h2, h3, h4)

def laws_toInt8A10 (k : Nat) (a1 : List Int) : Option ((List Int)) :=
  laws_toInt8A10_l0 k
    (fun y1 y2 =>
      some y2)
    0 a1 [0, 0, 0, 0, 0, 0, 0, 0, 0, 0] [0, 0, 0, 0, 0, 0, 0, 0, 0, 0]

def laws_toLevels_s0 {R : Type} (k : Nat) (K1 : (List Int) → (List Int) → Option R) (rec : Int → (List Int) → (List Int) → (List Int) → Option R) (h1 : Int) (h2 : List Int) (h3 : List Int) (h4 : List Int) : Option R :=
  cond (decide (h1 < 10))
    (cond ((decide (0 ≤ h1)) && (decide (h1 < 10)))
      (Option.bind (laws_toInt8A10 k (win h2 (0 + h1.toNat * 10) 10)) fun x1 =>
        cond ((decide (0 ≤ h1)) && (decide (h1 < 10)))
          (rec (IntKind.wrap .i64 (h1 + 1)) h2 h3 (setWin h4 (0 + h1.toNat * 10) 10 x1))
          none)
      none)
    (K1 h3 h4)

def laws_toLevels_l0 {R : Type} (k : Nat) (K1 : (List Int) → (List Int) → Option R) (h1 : Int) (h2 : List Int) (h3 : List Int) (h4 : List Int) : Option R :=
  loopF (fun (rec : Int × (List Int) × (List Int) × (List Int) → Option R) (p : Int × (List Int) × (List Int) × (List Int)) => laws_toLevels_s0 k K1 (fun h1 h2 h3 h4 => rec (h1, h2, h3, h4)) p.1 p.2.1 p.2.2.1 p.2.2.2) k (h1, h2, h3, h4)

def laws_toLevels (k : Nat) (a1 : List Int) : Option ((List Int)) :=
  laws_toLevels_l0 k
    (fun y1 y2 =>
      some y2)
    0 a1 (List.replicate 100 0) (List.replicate 100 0)

def spec_l06Level (k : Nat) (a1 : Int) : Option (Bool) :=
  Option.bind (spec_l00In k a1 (-9) 9) fun x1 =>
    some x1

def spec_l06Ok_s0 {R : Type} (k : Nat) (K1 : Bool → Option R) (K2 : (List Int) → (List Int) → Int → Option R) (rec : (List Int) → (List Int) → Int → Int → Option R) (h1 : List Int) (h2 : List Int) (h3 : Int) (h4 : Int) : Option R :=
  cond (decide (h4 < 10))
    (cond ((decide (0 ≤ h3)) && (decide (h3 < 10)))
      (cond ((decide (0 ≤ h4)) && (decide (h4 < 10)))
        (Option.bind (spec_l06Level k (IntKind.wrap .i64 (rd h2 ((0 + h3.toNat * 10) + h4.toNat * 1)))) fun x1 =>
          cond (!x1)
            (K1 false)
            (cond ((IntKind.wrap .i64 (rd h2 ((0 + h3.toNat * 10) + h4.toNat * 1))) != 0)
              (Option.bind (spec_l01Grass k h1 [h4, h3]) fun x2 =>
                cond (!x2)
                  (K1 false)
                  (rec h1 h2 h3 (IntKind.wrap .i8 (h4 + 1))))
              (rec h1 h2 h3 (IntKind.wrap .i8 (h4 + 1)))))
        none)
      none)
    (K2 h1 h2 h3)

def spec_l06Ok_l0 {R : Type} (k : Nat) (K1 : Bool → Option R) (K2 : (List Int) → (List Int) → Int → Option R) (h1 : List Int) (h2 : List Int) (h3 : Int) (h4 : Int) : Option R :=
  loopF (fun (rec : (List Int) × (List Int) × Int × Int → Option R) (p : (List Int) × (List Int) × Int × Int) => spec_l06Ok_s0 k K1 K2 (fun h1 h2 h3 h4 => rec (h1, h2, h3, h4)) p.1 p.2.1 p.2.2.1 p.2.2.2) k (h1, h2, h3, h4)

def spec_l06Ok_s1 {R : Type} (k : Nat) (K1 : Bool → Option R) (K2 : Option R) (rec : (List Int) → (List Int) → Int → Option R) (h1 : List Int) (h2 : List Int) (h3 : Int) : Option R :=
  cond (decide (h3 < 10))
    (spec_l06Ok_l0 k
      (fun y1 =>
        K1 y1)
      (fun y2 y3 y4 =>
        rec y2 y3 (IntKind.wrap .i8 (y4 + 1)))
      h1 h2 h3 0)
    (K2)

def spec_l06Ok_l1 {R : Type} (k : Nat) (K1 : Bool → Option R) (K2 : Option R) (h1 : List Int) (h2 : List Int) (h3 : Int) : Option R :=
  loopF (fun (rec : (List Int) × (List Int) × Int → Option R) (p : (List Int) × (List Int) × Int) => spec_l06Ok_s1 k K1 K2 (fun h1 h2 h3 => rec (h1, h2, h3)) p.1 p.2.1 p.2.2) k (h1, h2, h3)

def spec_l06Ok (k : Nat) (a1 : List Int) (a2 : List Int) : Option (Bool) :=
  Option.bind (spec_l01Ok k a1) fun x1 =>
    cond (!x1)
      (some false)
      (spec_l06Ok_l1 k
        (fun y2 =>
          some y2)
        (some true)
        a1 a2 0)

def spec_l06At (k : Nat) (a1 : List Int) (a2 : List Int) : Option (Int) :=
  cond ((decide (0 ≤ (rd a2 1))) && (decide ((rd a2 1) < 10)))
    (cond ((decide (0 ≤ (rd a2 0))) && (decide ((rd a2 0) < 10)))
      (some (IntKind.wrap .i64 (rd a1 ((0 + (rd a2 1).toNat * 10) + (rd a2 0).toNat * 1))))
      none)
    none

def spec_HighestCell_s0 {R : Type} (k : Nat) (K1 : (List Int) → (List Int) → (List Int) → Option R) (rec : Int → (List Int) → (List Int) → (List Int) → (List Int) → Option R) (h1 : Int) (h2 : List Int) (h3 : List Int) (h4 : List Int) (h5 : List Int) : Option R :=
  cond (decide (h1 < ((cnt 2 h4) : Int)))
    (cond ((decide (0 ≤ h1)) && (decide (h1 < ((cnt 2 h4) : Int))))
      (Option.bind (spec_l06At k h2 [(rd h4 (h1.toNat * 2)), (rd h4 ((h1.toNat * 2) + 1))]) fun x1 =>
        Option.bind (spec_l06At k h2 [(rd h5 0), (rd h5 1)]) fun x2 =>
          cond (decide (x1 > x2))
            (cond ((decide (0 ≤ h1)) && (decide (h1 < ((cnt 2 h4) : Int))))
              (rec (IntKind.wrap .i64 (h1 + 1)) h2 h3 h4 [(rd h4 (h1.toNat * 2)), (rd h4 ((h1.toNat * 2) + 1))])
              none)
            (rec (IntKind.wrap .i64 (h1 + 1)) h2 h3 h4 h5))
      none)
    (K1 h2 h3 h5)

def spec_HighestCell_l0 {R : Type} (k : Nat) (K1 : (List Int) → (List Int) → (List Int) → Option R) (h1 : Int) (h2 : List Int) (h3 : List Int) (h4 : List Int) (h5 : List Int) : Option R :=
  loopF (fun (rec : Int × (List Int) × (List Int) × (List Int) × (List Int) → Option R) (p : Int × (List Int) × (List Int) × (List Int) × (List Int)) => spec_HighestCell_s0 k K1 (fun h1 h2 h3 h4 h5 => rec (h1, h2, h3, h4, h5)) p.1 p.2.1 p.2.2.1 p.2.2.2.1 p.2.2.2.2) k (h1, h2, h3, h4, h5)

def spec_HighestCell (k : Nat) (a1 : List Int) (a2 : List Int) : Option ((List Int) × Int × Int) :=
  Option.bind (spec_l06Ok k a1 a2) fun x1 =>
    cond (!x1)
      (some ([0, 0], 0, 1))
      (Option.bind (spec_l01Cells k a1 0) fun x2 =>
        cond (((cnt 2 x2) : Int) == 0)
          (some ([0, 0], 0, 6))
          (cond (decide (0 < ((cnt 2 x2) : Int)))
            (spec_HighestCell_l0 k
              (fun y3 y4 y5 =>
                Option.bind (spec_l06At k y3 [(rd y5 0), (rd y5 1)]) fun x6 =>
                  some ([(rd y5 0), (rd y5 1)], x6, 0))
              1 a2 [0, 0] x2 [(rd x2 0), (rd x2 1)])
            none))

def impl_ValidLevels_s0 {R : Type} (k : Nat) (K1 : Bool → Option R) (K2 : Int → (List Int) → (List Int) → Option R) (rec : Int → Int → Int → (List Int) → (List Int) → Option R) (h1 : Int) (h2 : Int) (h3 : Int) (h4 : List Int) (h5 : List Int) : Option R :=
  cond (decide (h3 < 10))
    (cond ((decide (0 ≤ h1)) && (decide (h1 < 10)))
      (cond ((decide (0 ≤ h3)) && (decide (h3 < 10)))
        (cond (decide ((rd h5 ((0 + h1.toNat * 10) + h3.toNat * 1)) < (-9)))
          (K1 false)
          (cond (decide ((rd h5 ((0 + h1.toNat * 10) + h3.toNat * 1)) > 9))
            (K1 false)
            (cond ((rd h5 ((0 + h1.toNat * 10) + h3.toNat * 1)) != 0)
              (Option.bind (impl_Lawn_grass k h4 [h3, h1]) fun x1 =>
                cond (!x1)
                  (K1 false)
                  (rec h1 h2 (IntKind.wrap .i8 (h3 + 1)) h4 h5))
              (rec h1 h2 (IntKind.wrap .i8 (h3 + 1)) h4 h5))))
        none)
      none)
    (K2 h2 h4 h5)

def impl_ValidLevels_l0 {R : Type} (k : Nat) (K1 : Bool → Option R) (K2 : Int → (List Int) → (List Int) → Option R) (h1 : Int) (h2 : Int) (h3 : Int) (h4 : List Int) (h5 : List Int) : Option R :=
  loopF (fun (rec : Int × Int × Int × (List Int) × (List Int) → Option R) (p : Int × Int × Int × (List Int) × (List Int)) => impl_ValidLevels_s0 k K1 K2 (fun h1 h2 h3 h4 h5 => rec (h1, h2, h3, h4, h5)) p.1 p.2.1 p.2.2.1 p.2.2.2.1 p.2.2.2.2) k (h1, h2, h3, h4, h5)

def impl_ValidLevels_s1 {R : Type} (k : Nat) (K1 : Bool → Option R) (K2 : (List Int) → Option R) (rec : Int → (List Int) → (List Int) → Option R) (h1 : Int) (h2 : List Int) (h3 : List Int) : Option R :=
  cond (decide (h1 < 10))
    (impl_ValidLevels_l0 k
      (fun y1 =>
        K1 y1)
      (fun y2 y3 y4 =>
        rec (IntKind.wrap .i8 (y2 + 1)) y3 y4)
      h1 h1 0 h2 h3)
    (K2 h2)

def impl_ValidLevels_l1 {R : Type} (k : Nat) (K1 : Bool → Option R) (K2 : (List Int) → Option R) (h1 : Int) (h2 : List Int) (h3 : List Int) : Option R :=
  loopF (fun (rec : Int × (List Int) × (List Int) → Option R) (p : Int × (List Int) × (List Int)) => impl_ValidLevels_s1 k K1 K2 (fun h1 h2 h3 => rec (h1, h2, h3)) p.1 p.2.1 p.2.2) k (h1, h2, h3)

def impl_ValidLevels (k : Nat) (a1 : List Int) (a2 : List Int) : Option (Bool) :=
  impl_ValidLevels_l1 k
    (fun y1 =>
      some y1)
    (fun y2 =>
      Option.bind (impl_ValidLawn k y2) fun x3 =>
        some x3)
    0 a1 a2

def impl_soilCode (k : Nat) (a1 : List Int) (a2 : List Int) (a3 : List Int) : Option (Int) :=
  Option.bind (impl_ValidLevels k a1 a2) fun x1 =>
    cond (!x1)
      (some 1)
      (Option.bind (impl_cellsCode k a1 a3) fun x2 =>
        some x2)

def impl_Levels_of (k : Nat) (a1 : List Int) (a2 : List Int) : Option (Int) :=
  cond ((decide (0 ≤ (rd a2 1))) && (decide ((rd a2 1) < 10)))
    (cond ((decide (0 ≤ (rd a2 0))) && (decide ((rd a2 0) < 10)))
      (some (IntKind.wrap .i64 (rd a1 ((0 + (rd a2 1).toNat * 10) + (rd a2 0).toNat * 1))))
      none)
    none

def impl_HighestCell_s0 {R : Type} (k : Nat) (K1 : (List Int) → (List Int) → (List Int) → Option R) (rec : Int → Int → (List Int) → (List Int) → (List Int) → (List Int) → Option R) (h1 : Int) (h2 : Int) (h3 : List Int) (h4 : List Int) (h5 : List Int) (h6 : List Int) : Option R :=
  cond (decide (h2 < h1))
    (cond ((decide (0 ≤ h2)) && (decide (h2 < ((cnt 2 h6) : Int))))
      (Option.bind (impl_Levels_of k h3 [(rd h6 (h2.toNat * 2)), (rd h6 ((h2.toNat * 2) + 1))]) fun x1 =>
        Option.bind (impl_Levels_of k h3 [(rd h5 0), (rd h5 1)]) fun x2 =>
          cond (decide (x1 > x2))
            (rec h1 (IntKind.wrap .i64 (h2 + 1)) h3 h4 [(rd h6 (h2.toNat * 2)), (rd h6 ((h2.toNat * 2) + 1))] h6)
            (rec h1 (IntKind.wrap .i64 (h2 + 1)) h3 h4 h5 h6))
      none)
    (K1 h3 h4 h5)

def impl_HighestCell_l0 {R : Type} (k : Nat) (K1 : (List Int) → (List Int) → (List Int) → Option R) (h1 : Int) (h2 : Int) (h3 : List Int) (h4 : List Int) (h5 : List Int) (h6 : List Int) : Option R :=
  loopF (fun (rec : Int × Int × (List Int) × (List Int) × (List Int) × (List Int) → Option R) (p : Int × Int × (List Int) × (List Int) × (List Int) × (List Int)) => impl_HighestCell_s0 k K1 (fun h1 h2 h3 h4 h5 h6 => rec (h1, h2, h3, h4, h5, h6)) p.1 p.2.1 p.2.2.1 p.2.2.2.1 p.2.2.2.2.1 p.2.2.2.2.2) k (h1, h2, h3, h4, h5, h6)

def impl_HighestCell (k : Nat) (a1 : List Int) (a2 : List Int) : Option ((List Int) × Int × Int) :=
  Option.bind (impl_soilCode k a1 a2 []) fun x1 =>
    cond (x1 != 0)
      (some ([0, 0], 0, x1))
      (Option.bind (impl_Lawn_those k a1 (fun z2 => (impl_Lawn_grass k a1 [(rd z2 0), (rd z2 1)]).bind fun b => some b)) fun x3 =>
        cond (((cnt 2 x3) : Int) == 0)
          (some ([0, 0], 0, 6))
          (cond (decide (0 < ((cnt 2 x3) : Int)))
            (impl_HighestCell_l0 k
              (fun y4 y5 y6 =>
                Option.bind (impl_Levels_of k y4 [(rd y6 0), (rd y6 1)]) fun x7 =>
                  some ([(rd y6 0), (rd y6 1)], x7, 0))
              ((cnt 2 x3) : Int) 0 a2 [0, 0] [(rd x3 0), (rd x3 1)] x3)
            none))

def laws_FnExactHighestCell (k : Nat) (a1 : List Int) (a2 : List Int) : Option (Bool) :=
  Option.bind (laws_toLawn k a1) fun x1 =>
    Option.bind (laws_toLevels k a2) fun x2 =>
      Option.bind (spec_HighestCell k x1 x2) fun x3 =>
        Option.bind (laws_toLawn k a1) fun x4 =>
          Option.bind (laws_toLevels k a2) fun x5 =>
            Option.bind (impl_HighestCell k x4 x5) fun x6 =>
              Option.bind (laws_eqCell k [(rd x6.1 0), (rd x6.1 1)] [(rd x3.1 0), (rd x3.1 1)]) fun x7 =>
                cond (!x7)
                  (some false)
                  (cond (x6.2.1 != x3.2.1)
                    (some false)
                    (cond (x6.2.2 != x3.2.2)
                      (some false)
                      (some true)))

def spec_RunsOf (k : Nat) (a1 : List Int) (a2 : Bool) : Option ((List Int) × Int) :=
  Option.bind (spec_l01Ok k a1) fun x1 =>
    cond (!x1)
      (some ([], 1))
      (Option.bind (spec_l01Runs k a1 a2) fun x2 =>
        some (x2, 0))

def impl_RunsOf (k : Nat) (a1 : List Int) (a2 : Bool) : Option ((List Int) × Int) :=
  Option.bind (impl_cellsCode k a1 []) fun x1 =>
    cond (x1 != 0)
      (some ([], x1))
      (Option.bind (impl_Lawn_runs k a1 a2) fun x2 =>
        some (x2, 0))

def laws_eqRunS_s0 {R : Type} (k : Nat) (K1 : Bool → Option R) (K2 : Option R) (rec : (List Int) → (List Int) → Int → Option R) (h1 : List Int) (h2 : List Int) (h3 : Int) : Option R :=
  cond (decide (h3 < ((cnt 3 h1) : Int)))
    (cond ((decide (0 ≤ h3)) && (decide (h3 < ((cnt 3 h1) : Int))))
      (cond ((decide (0 ≤ h3)) && (decide (h3 < ((cnt 3 h2) : Int))))
        (Option.bind (laws_eqRun k [(rd h1 (h3.toNat * 3)), (rd h1 ((h3.toNat * 3) + 1)), (rd h1 ((h3.toNat * 3) + 2))] [(rd h2 (h3.toNat * 3)), (rd h2 ((h3.toNat * 3) + 1)), (rd h2 ((h3.toNat * 3) + 2))]) fun x1 =>
          cond (!x1)
            (K1 false)
            (rec h1 h2 (IntKind.wrap .i64 (h3 + 1))))
        none)
      none)
    (K2)

def laws_eqRunS_l0 {R : Type} (k : Nat) (K1 : Bool → Option R) (K2 : Option R) (h1 : List Int) (h2 : List Int) (h3 : Int) : Option R :=
  loopF (fun (rec : (List Int) × (List Int) × Int → Option R) (p : (List Int) × (List Int) × Int) => laws_eqRunS_s0 k K1 K2 (fun h1 h2 h3 => rec (h1, h2, h3)) p.1 p.2.1 p.2.2) k (h1, h2, h3)

def laws_eqRunS (k : Nat) (a1 : List Int) (a2 : List Int) : Option (Bool) :=
  cond (((cnt 3 a1) : Int) != ((cnt 3 a2) : Int))
    (some false)
    (laws_eqRunS_l0 k
      (fun y1 =>
        some y1)
      (some true)
      a1 a2 0)

def laws_markRunS_s0 {R : Type} (k : Nat) (K1 : Int → (List Int) → Option R) (rec : Int → Int → (List Int) → Option R) (h1 : Int) (h2 : Int) (h3 : List Int) : Option R :=
  cond (decide (h2 < ((cnt 3 h3) : Int)))
    (cond ((decide (0 ≤ h2)) && (decide (h2 < ((cnt 3 h3) : Int))))
      (cond ((decide (0 ≤ h2)) && (decide (h2 < (((cnt 3 (List.set h3 (h2.toNat * 3) (IntKind.wrap .i8 h1))) : Nat) : Int))))
        (cond ((decide (0 ≤ h2)) && (decide (h2 < (((cnt 3 (List.set (List.set h3 (h2.toNat * 3) (IntKind.wrap .i8 h1)) ((h2.toNat * 3) + 1) (IntKind.wrap .i8 (IntKind.wrap .i64 (h1 + 1))))) : Nat) : Int))))
          (rec (IntKind.wrap .i64 ((IntKind.wrap .i64 ((IntKind.wrap .i64 (h1 + 1)) + 1)) + 1)) (IntKind.wrap .i64 (h2 + 1)) (List.set (List.set (List.set h3 (h2.toNat * 3) (IntKind.wrap .i8 h1)) ((h2.toNat * 3) + 1) (IntKind.wrap .i8 (IntKind.wrap .i64 (h1 + 1)))) ((h2.toNat * 3) + 2) (IntKind.wrap .i8 (IntKind.wrap .i64 ((IntKind.wrap .i64 (h1 + 1)) + 1)))))
          none)
        none)
      none)
    (K1 h1 h3)

def laws_markRunS_l0 {R : Type} (k : Nat) (K1 : Int → (List Int) → Option R) (h1 : Int) (h2 : Int) (h3 : List Int) : Option R :=
  loopF (fun (rec : Int × Int × (List Int) → Option R) (p : Int × Int × (List Int)) => laws_markRunS_s0 k K1 (fun h1 h2 h3 => rec (h1, h2, h3)) p.1 p.2.1 p.2.2) k (h1, h2, h3)

def laws_markRunS (k : Nat) (a1 : List Int) (a2 : Int) : Option ((Int) × List Int) :=
  laws_markRunS_l0 k
    (fun y1 y2 =>
      some (y1, y2))
    a2 0 a1

def laws_heldRunS_s0 {R : Type} (k : Nat) (K1 : Int → Option R) (K2 : Int → Option R) (rec : (List Int) → Int → Int → Option R) (h1 : List Int) (h2 : Int) (h3 : Int) : Option R :=
  cond (decide (h3 < ((cnt 3 h1) : Int)))
    (cond ((decide (0 ≤ h3)) && (decide (h3 < ((cnt 3 h1) : Int))))
      (cond ((rd h1 (h3.toNat * 3)) != (IntKind.wrap .i8 h2))
        (K1 (-1))
        (cond ((decide (0 ≤ h3)) && (decide (h3 < ((cnt 3 h1) : Int))))
          (cond ((rd h1 ((h3.toNat * 3) + 1)) != (IntKind.wrap .i8 (IntKind.wrap .i64 (h2 + 1))))
            (K1 (-1))
            (cond ((decide (0 ≤ h3)) && (decide (h3 < ((cnt 3 h1) : Int))))
              (cond ((rd h1 ((h3.toNat * 3) + 2)) != (IntKind.wrap .i8 (IntKind.wrap .i64 ((IntKind.wrap .i64 (h2 + 1)) + 1))))
                (K1 (-1))
                (rec h1 (IntKind.wrap .i64 ((IntKind.wrap .i64 ((IntKind.wrap .i64 (h2 + 1)) + 1)) + 1)) (IntKind.wrap .i64 (h3 + 1))))
              none))
          none))
      none)
    (K2 h2)

def laws_heldRunS_l0 {R : Type} (k : Nat) (K1 : Int → Option R) (K2 : Int → Option R) (h1 : List Int) (h2 : Int) (h3 : Int) : Option R :=
  loopF (fun (rec : (List Int) × Int × Int → Option R) (p : (List Int) × Int × Int) => laws_heldRunS_s0 k K1 K2 (fun h1 h2 h3 => rec (h1, h2, h3)) p.1 p.2.1 p.2.2) k (h1, h2, h3)

def laws_heldRunS (k : Nat) (a1 : List Int) (a2 : Int) : Option (Int) :=
  laws_heldRunS_l0 k
    (fun y1 =>
      some y1)
    (fun y2 =>
      some y2)
    a1 a2 0

def laws_FnExactRunsOf (k : Nat) (a1 : List Int) (a2 : Bool) : Option (Bool) :=
  Option.bind (laws_toLawn k a1) fun x1 =>
    Option.bind (spec_RunsOf k x1 a2) fun x2 =>
      Option.bind (laws_toLawn k a1) fun x3 =>
        Option.bind (impl_RunsOf k x3 a2) fun x4 =>
          Option.bind (laws_eqRunS k x4.1 x2.1) fun x5 =>
            cond (!x5)
              (some false)
              (cond (x4.2 != x2.2)
                (some false)
                (Option.bind (laws_markRunS k x4.1 1) fun x6 =>
                  Option.bind (laws_heldRunS k x6.2 1) fun x7 =>
                    cond (decide (x7 < 0))
                      (some false)
                      (cond (x7 != x6.1)
                        (some false)
                        (Option.bind (laws_toLawn k a1) fun x8 =>
                          Option.bind (impl_RunsOf k x8 a2) fun x9 =>
                            Option.bind (laws_eqRunS k x9.1 x2.1) fun x10 =>
                              cond (!x10)
                                (some false)
                                (cond (x9.2 != x2.2)
                                  (some false)
                                  (Option.bind (laws_heldRunS k x6.2 1) fun x11 =>
                                    cond (decide (x11 < 0))
                                      (some false)
                                      (cond (x11 != x6.1)
                                        (some false)
                                        (some true))))))))

def spec_l05Edge (k : Nat) (a1 : List Int) : Option (Int) :=
  Option.bind (spec_l05All k a1) fun x1 =>
    some (IntKind.wrap .i64 ((IntKind.wrap .i64 ((IntKind.wrap .i64 ((rd x1 1) + (rd x1 2))) + (rd x1 3))) + (rd x1 4)))

def spec_GiveUp_s0 {R : Type} (k : Nat) (K1 : Int → (List Int) → (List Int) → Option R) (rec : Int → Int → (List Int) → (List Int) → (List Int) → (List Int) → Option R) (h1 : Int) (h2 : Int) (h3 : List Int) (h4 : List Int) (h5 : List Int) (h6 : List Int) : Option R :=
  cond (decide (h2 < ((cnt 2 h6) : Int)))
    (cond ((decide (0 ≤ h2)) && (decide (h2 < ((cnt 2 h6) : Int))))
      (Option.bind (spec_l05With k h3 [(rd h6 (h2.toNat * 2)), (rd h6 ((h2.toNat * 2) + 1))] 0) fun x1 =>
        Option.bind (spec_l05Edge k x1) fun x2 =>
          cond (decide (h1 < 0))
            (cond ((decide (0 ≤ h2)) && (decide (h2 < ((cnt 2 h6) : Int))))
              (rec x2 (IntKind.wrap .i64 (h2 + 1)) h3 h4 [(rd h6 (h2.toNat * 2)), (rd h6 ((h2.toNat * 2) + 1))] h6)
              none)
            (cond (decide (x2 < h1))
              (cond ((decide (0 ≤ h2)) && (decide (h2 < ((cnt 2 h6) : Int))))
                (rec x2 (IntKind.wrap .i64 (h2 + 1)) h3 h4 [(rd h6 (h2.toNat * 2)), (rd h6 ((h2.toNat * 2) + 1))] h6)
                none)
              (rec h1 (IntKind.wrap .i64 (h2 + 1)) h3 h4 h5 h6)))
      none)
    (K1 h1 h4 h5)

def spec_GiveUp_l0 {R : Type} (k : Nat) (K1 : Int → (List Int) → (List Int) → Option R) (h1 : Int) (h2 : Int) (h3 : List Int) (h4 : List Int) (h5 : List Int) (h6 : List Int) : Option R :=
  loopF (fun (rec : Int × Int × (List Int) × (List Int) × (List Int) × (List Int) → Option R) (p : Int × Int × (List Int) × (List Int) × (List Int) × (List Int)) => spec_GiveUp_s0 k K1 (fun h1 h2 h3 h4 h5 h6 => rec (h1, h2, h3, h4, h5, h6)) p.1 p.2.1 p.2.2.1 p.2.2.2.1 p.2.2.2.2.1 p.2.2.2.2.2) k (h1, h2, h3, h4, h5, h6)

def spec_GiveUp (k : Nat) (a1 : List Int) : Option ((List Int) × Int × Int) :=
  Option.bind (spec_l01Ok k a1) fun x1 =>
    cond (!x1)
      (some ([0, 0], 0, 1))
      (Option.bind (spec_l01Cells k a1 1) fun x2 =>
        spec_GiveUp_l0 k
          (fun y3 y4 y5 =>
            cond (decide (y3 < 0))
              (some ([0, 0], 0, 6))
              (some ([(rd y5 0), (rd y5 1)], y3, 0)))
          (-1) 0 a1 [0, 0] [0, 0] x2)

def impl_GiveUp_1 (k : Nat) (a1 : List Int) (a2 : List Int) : Option (Bool) :=
  Option.bind (impl_Lawn_is k a2 [(rd a1 0), (rd a1 1)] 1) fun x1 =>
    some x1

def impl_Lawn_edge (k : Nat) (a1 : List Int) : Option (Int) :=
  Option.bind (impl_Lawn_sides k a1) fun x1 =>
    some (IntKind.wrap .i64 ((IntKind.wrap .i64 ((IntKind.wrap .i64 ((rd x1 1) + (rd x1 2))) + (rd x1 3))) + (rd x1 4)))

def impl_GiveUp_s0 {R : Type} (k : Nat) (K1 : Int → (List Int) → (List Int) → Option R) (rec : Int → Int → Int → (List Int) → (List Int) → (List Int) → (List Int) → Option R) (h1 : Int) (h2 : Int) (h3 : Int) (h4 : List Int) (h5 : List Int) (h6 : List Int) (h7 : List Int) : Option R :=
  cond (decide (h3 < h2))
    (cond ((decide (0 ≤ h3)) && (decide (h3 < ((cnt 2 h7) : Int))))
      (Option.bind (impl_Lawn_turned k h4 [(rd h7 (h3.toNat * 2)), (rd h7 ((h3.toNat * 2) + 1))] 0) fun x1 =>
        Option.bind (impl_Lawn_edge k x1) fun x2 =>
          cond (decide (h1 < 0))
            (rec x2 h2 (IntKind.wrap .i64 (h3 + 1)) h4 h5 [(rd h7 (h3.toNat * 2)), (rd h7 ((h3.toNat * 2) + 1))] h7)
            (cond (decide (x2 < h1))
              (rec x2 h2 (IntKind.wrap .i64 (h3 + 1)) h4 h5 [(rd h7 (h3.toNat * 2)), (rd h7 ((h3.toNat * 2) + 1))] h7)
              (rec h1 h2 (IntKind.wrap .i64 (h3 + 1)) h4 h5 h6 h7)))
      none)
    (K1 h1 h5 h6)

def impl_GiveUp_l0 {R : Type} (k : Nat) (K1 : Int → (List Int) → (List Int) → Option R) (h1 : Int) (h2 : Int) (h3 : Int) (h4 : List Int) (h5 : List Int) (h6 : List Int) (h7 : List Int) : Option R :=
  loopF (fun (rec : Int × Int × Int × (List Int) × (List Int) × (List Int) × (List Int) → Option R) (p : Int × Int × Int × (List Int) × (List Int) × (List Int) × (List Int)) => impl_GiveUp_s0 k K1 (fun h1 h2 h3 h4 h5 h6 h7 => rec (h1, h2, h3, h4, h5, h6, h7)) p.1 p.2.1 p.2.2.1 p.2.2.2.1 p.2.2.2.2.1 p.2.2.2.2.2.1 p.2.2.2.2.2.2) k (h1, h2, h3, h4, h5, h6, h7)

def impl_GiveUp (k : Nat) (a1 : List Int) : Option ((List Int) × Int × Int) :=
  Option.bind (impl_ValidLawn k a1) fun x1 =>
    cond (!x1)
      (some ([0, 0], 0, 1))
      (Option.bind (impl_Lawn_those k a1 (fun z2 => (impl_GiveUp_1 k [(rd z2 0), (rd z2 1)] a1).bind fun b => some b)) fun x3 =>
        impl_GiveUp_l0 k
          (fun y4 y5 y6 =>
            cond (decide (y4 < 0))
              (some ([0, 0], 0, 6))
              (some ([(rd y6 0), (rd y6 1)], y4, 0)))
          (-1) ((cnt 2 x3) : Int) 0 a1 [0, 0] [0, 0] x3)

def laws_FnExactGiveUp (k : Nat) (a1 : List Int) : Option (Bool) :=
  Option.bind (laws_toLawn k a1) fun x1 =>
    Option.bind (spec_GiveUp k x1) fun x2 =>
      Option.bind (laws_toLawn k a1) fun x3 =>
        Option.bind (impl_GiveUp k x3) fun x4 =>
          Option.bind (laws_eqCell k [(rd x4.1 0), (rd x4.1 1)] [(rd x2.1 0), (rd x2.1 1)]) fun x5 =>
            cond (!x5)
              (some false)
              (cond (x4.2.1 != x2.2.1)
                (some false)
                (cond (x4.2.2 != x2.2.2)
                  (some false)
                  (some true)))

def spec_PlantAt_s0 {R : Type} (k : Nat) (K1 : Int → (List Int) → (List Int) → Option R) (rec : Int → Int → (List Int) → (List Int) → (List Int) → (List Int) → Option R) (h1 : Int) (h2 : Int) (h3 : List Int) (h4 : List Int) (h5 : List Int) (h6 : List Int) : Option R :=
  cond (decide (h2 < ((cnt 2 h6) : Int)))
    (cond ((decide (0 ≤ h2)) && (decide (h2 < ((cnt 2 h6) : Int))))
      (Option.bind (spec_l05With k h3 [(rd h6 (h2.toNat * 2)), (rd h6 ((h2.toNat * 2) + 1))] 1) fun x1 =>
        Option.bind (spec_l05Edge k x1) fun x2 =>
          cond (decide (x2 > h1))
            (cond ((decide (0 ≤ h2)) && (decide (h2 < ((cnt 2 h6) : Int))))
              (rec x2 (IntKind.wrap .i64 (h2 + 1)) h3 h4 [(rd h6 (h2.toNat * 2)), (rd h6 ((h2.toNat * 2) + 1))] h6)
              none)
            (rec h1 (IntKind.wrap .i64 (h2 + 1)) h3 h4 h5 h6))
      none)
    (K1 h1 h4 h5)

def spec_PlantAt_l0 {R : Type} (k : Nat) (K1 : Int → (List Int) → (List Int) → Option R) (h1 : Int) (h2 : Int) (h3 : List Int) (h4 : List Int) (h5 : List Int) (h6 : List Int) : Option R :=
  loopF (fun (rec : Int × Int × (List Int) × (List Int) × (List Int) × (List Int) → Option R) (p : Int × Int × (List Int) × (List Int) × (List Int) × (List Int)) => spec_PlantAt_s0 k K1 (fun h1 h2 h3 h4 h5 h6 => rec (h1, h2, h3, h4, h5, h6)) p.1 p.2.1 p.2.2.1 p.2.2.2.1 p.2.2.2.2.1 p.2.2.2.2.2) k (h1, h2, h3, h4, h5, h6)

def spec_PlantAt (k : Nat) (a1 : List Int) : Option ((List Int) × Int × Int) :=
  Option.bind (spec_l01Ok k a1) fun x1 =>
    cond (!x1)
      (some ([0, 0], 0, 1))
      (Option.bind (spec_l01Cells k a1 0) fun x2 =>
        spec_PlantAt_l0 k
          (fun y3 y4 y5 =>
            cond (decide (y3 < 0))
              (some ([0, 0], 0, 6))
              (some ([(rd y5 0), (rd y5 1)], y3, 0)))
          (-1) 0 a1 [0, 0] [0, 0] x2)

def impl_PlantAt_s0 {R : Type} (k : Nat) (K1 : Int → (List Int) → (List Int) → Option R) (rec : Int → Int → Int → (List Int) → (List Int) → (List Int) → (List Int) → Option R) (h1 : Int) (h2 : Int) (h3 : Int) (h4 : List Int) (h5 : List Int) (h6 : List Int) (h7 : List Int) : Option R :=
  cond (decide (h3 < h2))
    (cond ((decide (0 ≤ h3)) && (decide (h3 < ((cnt 2 h7) : Int))))
      (Option.bind (impl_Lawn_turned k h4 [(rd h7 (h3.toNat * 2)), (rd h7 ((h3.toNat * 2) + 1))] 1) fun x1 =>
        Option.bind (impl_Lawn_edge k x1) fun x2 =>
          cond (decide (x2 > h1))
            (rec x2 h2 (IntKind.wrap .i64 (h3 + 1)) h4 h5 [(rd h7 (h3.toNat * 2)), (rd h7 ((h3.toNat * 2) + 1))] h7)
            (rec h1 h2 (IntKind.wrap .i64 (h3 + 1)) h4 h5 h6 h7))
      none)
    (K1 h1 h5 h6)

def impl_PlantAt_l0 {R : Type} (k : Nat) (K1 : Int → (List Int) → (List Int) → Option R) (h1 : Int) (h2 : Int) (h3 : Int) (h4 : List Int) (h5 : List Int) (h6 : List Int) (h7 : List Int) : Option R :=
  loopF (fun (rec : Int × Int × Int × (List Int) × (List Int) × (List Int) × (List Int) → Option R) (p : Int × Int × Int × (List Int) × (List Int) × (List Int) × (List Int)) => impl_PlantAt_s0 k K1 (fun h1 h2 h3 h4 h5 h6 h7 => rec (h1, h2, h3, h4, h5, h6, h7)) p.1 p.2.1 p.2.2.1 p.2.2.2.1 p.2.2.2.2.1 p.2.2.2.2.2.1 p.2.2.2.2.2.2) k (h1, h2, h3, h4, h5, h6, h7)

def impl_PlantAt (k : Nat) (a1 : List Int) : Option ((List Int) × Int × Int) :=
  Option.bind (impl_ValidLawn k a1) fun x1 =>
    cond (!x1)
      (some ([0, 0], 0, 1))
      (Option.bind (impl_Lawn_those k a1 (fun z2 => (impl_Lawn_grass k a1 [(rd z2 0), (rd z2 1)]).bind fun b => some b)) fun x3 =>
        impl_PlantAt_l0 k
          (fun y4 y5 y6 =>
            cond (decide (y4 < 0))
              (some ([0, 0], 0, 6))
              (some ([(rd y6 0), (rd y6 1)], y4, 0)))
          (-1) ((cnt 2 x3) : Int) 0 a1 [0, 0] [0, 0] x3)

def laws_FnExactPlantAt (k : Nat) (a1 : List Int) : Option (Bool) :=
  Option.bind (laws_toLawn k a1) fun x1 =>
    Option.bind (spec_PlantAt k x1) fun x2 =>
      Option.bind (laws_toLawn k a1) fun x3 =>
        Option.bind (impl_PlantAt k x3) fun x4 =>
          Option.bind (laws_eqCell k [(rd x4.1 0), (rd x4.1 1)] [(rd x2.1 0), (rd x2.1 1)]) fun x5 =>
            cond (!x5)
              (some false)
              (cond (x4.2.1 != x2.2.1)
                (some false)
                (cond (x4.2.2 != x2.2.2)
                  (some false)
                  (some true)))

def laws_toCell (k : Nat) (a1 : List Int) : Option ((List Int)) :=
  some [(rd a1 0), (rd a1 1)]

def spec_l01Told (k : Nat) (a1 : List Int) (a2 : Bool) : Option (Int) :=
  Option.bind (spec_l01Ok k a1) fun x1 =>
    cond (!x1)
      (some 1)
      (cond (!a2)
        (some 2)
        (some 0))

def spec_l02Letter_s0 {R : Type} (k : Nat) (K1 : Int → Option R) (K2 : Option R) (rec : Int → Int → Option R) (h1 : Int) (h2 : Int) : Option R :=
  cond (decide (h2 < 4))
    (cond ((decide (0 ≤ h2)) && (decide (h2 < ((ByteArray.mk #[78, 87, 69, 83]).size : Int))))
      (cond ((((ByteArray.mk #[78, 87, 69, 83]).data.toList.getD h2.toNat 0).toNat : Int) == h1)
        (K1 h2)
        (rec h1 (IntKind.wrap .i64 (h2 + 1))))
      none)
    (K2)

def spec_l02Letter_l0 {R : Type} (k : Nat) (K1 : Int → Option R) (K2 : Option R) (h1 : Int) (h2 : Int) : Option R :=
  loopF (fun (rec : Int × Int → Option R) (p : Int × Int) => spec_l02Letter_s0 k K1 K2 (fun h1 h2 => rec (h1, h2)) p.1 p.2) k (h1, h2)

def spec_l02Letter (k : Nat) (a1 : Int) : Option (Int) :=
  spec_l02Letter_l0 k
    (fun y1 =>
      some y1)
    (some (-1))
    a1 0

def spec_l02Way_s0 {R : Type} (k : Nat) (K1 : Int → Option R) (K2 : Option R) (rec : ByteArray → Int → Option R) (h1 : ByteArray) (h2 : Int) : Option R :=
  cond (decide (h2 < (h1.size : Int)))
    (cond ((decide (0 ≤ h2)) && (decide (h2 < (h1.size : Int))))
      (Option.bind (spec_l02Letter k ((h1.data.toList.getD h2.toNat 0).toNat : Int)) fun x1 =>
        cond (decide (x1 < 0))
          (K1 5)
          (rec h1 (IntKind.wrap .i64 (h2 + 1))))
      none)
    (K2)

def spec_l02Way_l0 {R : Type} (k : Nat) (K1 : Int → Option R) (K2 : Option R) (h1 : ByteArray) (h2 : Int) : Option R :=
  loopF (fun (rec : ByteArray × Int → Option R) (p : ByteArray × Int) => spec_l02Way_s0 k K1 K2 (fun h1 h2 => rec (h1, h2)) p.1 p.2) k (h1, h2)

def spec_l02Way (k : Nat) (a1 : ByteArray) : Option (Int) :=
  cond (decide ((a1.size : Int) > 200))
    (some 3)
    (spec_l02Way_l0 k
      (fun y1 =>
        some y1)
      (some 0)
      a1 0)

def spec_l02Told (k : Nat) (a1 : List Int) (a2 : List Int) (a3 : ByteArray) : Option (Int) :=
  Option.bind (spec_l01Is k a1 [(rd a2 0), (rd a2 1)]) fun x1 =>
    Option.bind (spec_l01Told k a1 x1) fun x2 =>
      cond (x2 == 0)
        (Option.bind (spec_l02Way k a3) fun x3 =>
          some x3)
        (some x2)

def spec_l01Open (k : Nat) (a1 : List Int) (a2 : List Int) : Option (Bool) :=
  Option.bind (spec_l01At k a1 [(rd a2 0), (rd a2 1)]) fun x1 =>
    cond (x1 == 0)
      (some true)
      (Option.bind (spec_l01At k a1 [(rd a2 0), (rd a2 1)]) fun x2 =>
        some (x2 == 3))

def spec_l02Free (k : Nat) (a1 : List Int) (a2 : List Int) : Option (Bool) :=
  Option.bind (spec_l01Is k a1 [(rd a2 0), (rd a2 1)]) fun x1 =>
    cond x1
      (Option.bind (spec_l01Open k a1 [(rd a2 0), (rd a2 1)]) fun x2 =>
        some x2)
      (some false)

def spec_l02Next (k : Nat) (a1 : List Int) (a2 : Int) : Option ((List Int)) :=
  cond (a2 == 0)
    (some [(rd a1 0), (IntKind.wrap .i8 ((rd a1 1) - 1))])
    (cond (a2 == 1)
      (some [(IntKind.wrap .i8 ((rd a1 0) - 1)), (rd a1 1)])
      (cond (a2 == 2)
        (some [(IntKind.wrap .i8 ((rd a1 0) + 1)), (rd a1 1)])
        (some [(rd a1 0), (IntKind.wrap .i8 ((rd a1 1) + 1))])))

def spec_l02Come_s0 {R : Type} (k : Nat) (K1 : Bool → (List Int) → Option R) (K2 : (List Int) → Option R) (rec : (List Int) → ByteArray → Int → (List Int) → (List Int) → Option R) (h1 : List Int) (h2 : ByteArray) (h3 : Int) (h4 : List Int) (h5 : List Int) : Option R :=
  cond (decide (h3 < (h2.size : Int)))
    (cond ((decide (0 ≤ h3)) && (decide (h3 < (h2.size : Int))))
      (Option.bind (spec_l02Letter k ((h2.data.toList.getD h3.toNat 0).toNat : Int)) fun x1 =>
        Option.bind (spec_l02Next k [(rd h4 0), (rd h4 1)] x1) fun x2 =>
          Option.bind (spec_l02Free k h1 [(rd x2 0), (rd x2 1)]) fun x3 =>
            cond (!x3)
              (K1 false h5)
              (cond (decide (h5.length + 2 ≤ bigLen))
                (rec h1 h2 (IntKind.wrap .i64 (h3 + 1)) x2 (h5 ++ [(rd x2 0), (rd x2 1)]))
                none))
      none)
    (K2 h5)

def spec_l02Come_l0 {R : Type} (k : Nat) (K1 : Bool → (List Int) → Option R) (K2 : (List Int) → Option R) (h1 : List Int) (h2 : ByteArray) (h3 : Int) (h4 : List Int) (h5 : List Int) : Option R :=
  loopF (fun (rec : (List Int) × ByteArray × Int × (List Int) × (List Int) → Option R) (p : (List Int) × ByteArray × Int × (List Int) × (List Int)) => spec_l02Come_s0 k K1 K2 (fun h1 h2 h3 h4 h5 => rec (h1, h2, h3, h4, h5)) p.1 p.2.1 p.2.2.1 p.2.2.2.1 p.2.2.2.2) k (h1, h2, h3, h4, h5)

def spec_l02Come (k : Nat) (a1 : List Int) (a2 : List Int) (a3 : ByteArray) : Option ((List Int) × Bool) :=
  Option.bind (spec_l02Free k a1 [(rd a2 0), (rd a2 1)]) fun x1 =>
    cond (!x1)
      (some ([(rd a2 0), (rd a2 1)], false))
      (spec_l02Come_l0 k
        (fun y2 y3 =>
          some (y3, y2))
        (fun y4 =>
          some (y4, true))
        a1 a3 0 a2 [(rd a2 0), (rd a2 1)])

def spec_CheckWay (k : Nat) (a1 : List Int) (a2 : List Int) (a3 : ByteArray) : Option (Bool × Int) :=
  Option.bind (spec_l02Told k a1 [(rd a2 0), (rd a2 1)] a3) fun x1 =>
    cond (x1 != 0)
      (some (false, x1))
      (Option.bind (spec_l02Come k a1 [(rd a2 0), (rd a2 1)] a3) fun x2 =>
        some (x2.2, 0))

def strings_IndexByte (_k : Nat) (a1 : ByteArray) (a2 : Int) : Option (Int) := some (Lib.indexByte a1.data.toList a2.toNat.toUInt8)

def impl_wayCode_s0 {R : Type} (k : Nat) (K1 : Int → Option R) (K2 : Option R) (rec : ByteArray → Int → Int → Option R) (h1 : ByteArray) (h2 : Int) (h3 : Int) : Option R :=
  cond (decide (h3 < h2))
    (cond ((decide (0 ≤ h3)) && (decide (h3 < (h1.size : Int))))
      (Option.bind (strings_IndexByte k (ByteArray.mk #[78, 87, 69, 83]) ((h1.data.toList.getD h3.toNat 0).toNat : Int)) fun x1 =>
        cond (decide (x1 < 0))
          (K1 5)
          (rec h1 h2 (IntKind.wrap .i64 (h3 + 1))))
      none)
    (K2)

def impl_wayCode_l0 {R : Type} (k : Nat) (K1 : Int → Option R) (K2 : Option R) (h1 : ByteArray) (h2 : Int) (h3 : Int) : Option R :=
  loopF (fun (rec : ByteArray × Int × Int → Option R) (p : ByteArray × Int × Int) => impl_wayCode_s0 k K1 K2 (fun h1 h2 h3 => rec (h1, h2, h3)) p.1 p.2.1 p.2.2) k (h1, h2, h3)

def impl_wayCode (k : Nat) (a1 : ByteArray) : Option (Int) :=
  cond (decide ((a1.size : Int) > 200))
    (some 3)
    (impl_wayCode_l0 k
      (fun y1 =>
        some y1)
      (some 0)
      a1 (a1.size : Int) 0)

def impl_go1 (k : Nat) (a1 : List Int) (a2 : Int) : Option ((List Int)) :=
  Option.bind (impl_beside k [(rd a1 0), (rd a1 1)]) fun x1 =>
    Option.bind (strings_IndexByte k (ByteArray.mk #[78, 87, 69, 83]) a2) fun x2 =>
      cond ((decide (0 ≤ x2)) && (decide (x2 < ((cnt 2 x1) : Int))))
        (some [(rd x1 (x2.toNat * 2)), (rd x1 ((x2.toNat * 2) + 1))])
        none

def impl_Lawn_open (k : Nat) (a1 : List Int) (a2 : List Int) : Option (Bool) :=
  Option.bind (impl_Lawn_is k a1 [(rd a2 0), (rd a2 1)] 0) fun x1 =>
    cond x1
      (some true)
      (Option.bind (impl_Lawn_is k a1 [(rd a2 0), (rd a2 1)] 3) fun x2 =>
        some x2)

def impl_Lawn_cellsBy_s0 {R : Type} (k : Nat) (K1 : Bool → (List Int) → Option R) (K2 : (List Int) → (List Int) → (List Int) → Option R) (rec : ByteArray → Int → Int → (List Int) → (List Int) → (List Int) → Option R) (h1 : ByteArray) (h2 : Int) (h3 : Int) (h4 : List Int) (h5 : List Int) (h6 : List Int) : Option R :=
  cond (decide (h3 < h2))
    (cond ((decide (0 ≤ h3)) && (decide (h3 < ((cnt 2 h6) : Int))))
      (cond ((decide (0 ≤ h3)) && (decide (h3 < (h1.size : Int))))
        (Option.bind (impl_go1 k [(rd h6 (h3.toNat * 2)), (rd h6 ((h3.toNat * 2) + 1))] ((h1.data.toList.getD h3.toNat 0).toNat : Int)) fun x1 =>
          cond (decide (h6.length + (setAt [0, 0] 0 x1).length ≤ bigLen))
            (cond ((decide (0 ≤ (IntKind.wrap .i64 (h3 + 1)))) && (decide ((IntKind.wrap .i64 (h3 + 1)) < ((cnt 2 (h6 ++ (setAt [0, 0] 0 x1))) : Int))))
              (Option.bind (impl_Lawn_open k h4 [(rd (h6 ++ (setAt [0, 0] 0 x1)) ((IntKind.wrap .i64 (h3 + 1)).toNat * 2)), (rd (h6 ++ (setAt [0, 0] 0 x1)) (((IntKind.wrap .i64 (h3 + 1)).toNat * 2) + 1))]) fun x2 =>
                cond (!x2)
                  (K1 false (h6 ++ (setAt [0, 0] 0 x1)))
                  (rec h1 h2 (IntKind.wrap .i64 (h3 + 1)) h4 h5 (h6 ++ (setAt [0, 0] 0 x1))))
              none)
            none)
        none)
      none)
    (K2 h4 h5 h6)

def impl_Lawn_cellsBy_l0 {R : Type} (k : Nat) (K1 : Bool → (List Int) → Option R) (K2 : (List Int) → (List Int) → (List Int) → Option R) (h1 : ByteArray) (h2 : Int) (h3 : Int) (h4 : List Int) (h5 : List Int) (h6 : List Int) : Option R :=
  loopF (fun (rec : ByteArray × Int × Int × (List Int) × (List Int) × (List Int) → Option R) (p : ByteArray × Int × Int × (List Int) × (List Int) × (List Int)) => impl_Lawn_cellsBy_s0 k K1 K2 (fun h1 h2 h3 h4 h5 h6 => rec (h1, h2, h3, h4, h5, h6)) p.1 p.2.1 p.2.2.1 p.2.2.2.1 p.2.2.2.2.1 p.2.2.2.2.2) k (h1, h2, h3, h4, h5, h6)

def impl_Lawn_cellsBy (k : Nat) (a1 : List Int) (a2 : List Int) (a3 : ByteArray) : Option ((List Int) × Bool) :=
  impl_Lawn_cellsBy_l0 k
    (fun y1 y2 =>
      some (y2, y1))
    (fun y3 y4 y5 =>
      Option.bind (impl_Lawn_open k y3 [(rd y4 0), (rd y4 1)]) fun x6 =>
        some (y5, x6))
    a3 (a3.size : Int) 0 a1 a2 [(rd a2 0), (rd a2 1)]

def impl_walked (k : Nat) (a1 : List Int) (a2 : List Int) (a3 : ByteArray) : Option ((List Int) × Int) :=
  Option.bind (impl_cellsCode k a1 [(rd a2 0), (rd a2 1)]) fun x1 =>
    cond (x1 == 0)
      (Option.bind (impl_wayCode k a3) fun x2 =>
        cond (x2 != 0)
          (some ([], x2))
          (Option.bind (impl_Lawn_cellsBy k a1 [(rd a2 0), (rd a2 1)] a3) fun x3 =>
            cond (!x3.2)
              (some ([], 4))
              (some (x3.1, 0))))
      (cond (x1 != 0)
        (some ([], x1))
        (Option.bind (impl_Lawn_cellsBy k a1 [(rd a2 0), (rd a2 1)] a3) fun x4 =>
          cond (!x4.2)
            (some ([], 4))
            (some (x4.1, 0))))

def impl_CheckWay (k : Nat) (a1 : List Int) (a2 : List Int) (a3 : ByteArray) : Option (Bool × Int) :=
  Option.bind (impl_walked k a1 [(rd a2 0), (rd a2 1)] a3) fun x1 =>
    cond (x1.2 == 4)
      (some (false, 0))
      (some ((x1.2 == 0), x1.2))

def laws_FnExactCheckWay (k : Nat) (a1 : List Int) (a2 : List Int) (a3 : ByteArray) : Option (Bool) :=
  cond (decide ((a3.size : Int) > 1048576))
    (some true)
    (Option.bind (laws_toLawn k a1) fun x1 =>
      Option.bind (laws_toCell k [(rd a2 0), (rd a2 1)]) fun x2 =>
        Option.bind (spec_CheckWay k x1 x2 a3) fun x3 =>
          Option.bind (laws_toLawn k a1) fun x4 =>
            Option.bind (laws_toCell k [(rd a2 0), (rd a2 1)]) fun x5 =>
              Option.bind (impl_CheckWay k x4 x5 a3) fun x6 =>
                cond (!(x6.1 == x3.1))
                  (some false)
                  (cond (x6.2 != x3.2)
                    (some false)
                    (some true)))

def spec_l01Beside_s0 {R : Type} (k : Nat) (K1 : (List Int) → Option R) (rec : (List Int) → Int → (List Int) → (List Int) → Option R) (h1 : List Int) (h2 : Int) (h3 : List Int) (h4 : List Int) : Option R :=
  cond (decide (h2 < ((cnt 2 h3) : Int)))
    (cond ((decide (0 ≤ h2)) && (decide (h2 < ((cnt 2 h3) : Int))))
      (Option.bind (spec_l01Is k h1 [(rd h3 (h2.toNat * 2)), (rd h3 ((h2.toNat * 2) + 1))]) fun x1 =>
        cond x1
          (cond ((decide (0 ≤ h2)) && (decide (h2 < ((cnt 2 h3) : Int))))
            (cond (decide (h4.length + 2 ≤ bigLen))
              (rec h1 (IntKind.wrap .i64 (h2 + 1)) h3 (h4 ++ [(rd h3 (h2.toNat * 2)), (rd h3 ((h2.toNat * 2) + 1))]))
              none)
            none)
          (rec h1 (IntKind.wrap .i64 (h2 + 1)) h3 h4))
      none)
    (K1 h4)

def spec_l01Beside_l0 {R : Type} (k : Nat) (K1 : (List Int) → Option R) (h1 : List Int) (h2 : Int) (h3 : List Int) (h4 : List Int) : Option R :=
  loopF (fun (rec : (List Int) × Int × (List Int) × (List Int) → Option R) (p : (List Int) × Int × (List Int) × (List Int)) => spec_l01Beside_s0 k K1 (fun h1 h2 h3 h4 => rec (h1, h2, h3, h4)) p.1 p.2.1 p.2.2.1 p.2.2.2) k (h1, h2, h3, h4)

def spec_l01Beside (k : Nat) (a1 : List Int) (a2 : List Int) : Option ((List Int)) :=
  spec_l01Beside_l0 k
    (fun y1 =>
      some y1)
    a1 0 [(rd a2 0), (IntKind.wrap .i8 ((rd a2 1) - 1)), (IntKind.wrap .i8 ((rd a2 0) - 1)), (rd a2 1), (IntKind.wrap .i8 ((rd a2 0) + 1)), (rd a2 1), (rd a2 0), (IntKind.wrap .i8 ((rd a2 1) + 1))] []

def spec_l01Reach_s0 {R : Type} (k : Nat) (K1 : (List Int) → Bool → Int → (List Int) → (List Int) → (List Int) → Option R) (rec : (List Int) → Bool → Int → Int → (List Int) → (List Int) → (List Int) → Option R) (h1 : List Int) (h2 : Bool) (h3 : Int) (h4 : Int) (h5 : List Int) (h6 : List Int) (h7 : List Int) : Option R :=
  cond (decide (h4 < 10))
    (cond ((decide (0 ≤ h3)) && (decide (h3 < 10)))
      (cond ((decide (0 ≤ h4)) && (decide (h4 < 10)))
        (rec h1 h2 h3 (IntKind.wrap .i64 (h4 + 1)) h5 h6 (List.set h7 ((0 + h3.toNat * 10) + h4.toNat * 1) (-1)))
        none)
      none)
    (K1 h1 h2 h3 h5 h6 h7)

def spec_l01Reach_l0 {R : Type} (k : Nat) (K1 : (List Int) → Bool → Int → (List Int) → (List Int) → (List Int) → Option R) (h1 : List Int) (h2 : Bool) (h3 : Int) (h4 : Int) (h5 : List Int) (h6 : List Int) (h7 : List Int) : Option R :=
  loopF (fun (rec : (List Int) × Bool × Int × Int × (List Int) × (List Int) × (List Int) → Option R) (p : (List Int) × Bool × Int × Int × (List Int) × (List Int) × (List Int)) => spec_l01Reach_s0 k K1 (fun h1 h2 h3 h4 h5 h6 h7 => rec (h1, h2, h3, h4, h5, h6, h7)) p.1 p.2.1 p.2.2.1 p.2.2.2.1 p.2.2.2.2.1 p.2.2.2.2.2.1 p.2.2.2.2.2.2) k (h1, h2, h3, h4, h5, h6, h7)

def spec_l01Reach_s1 {R : Type} (k : Nat) (K1 : (List Int) → Bool → (List Int) → (List Int) → (List Int) → Option R) (rec : (List Int) → Bool → Int → (List Int) → (List Int) → (List Int) → Option R) (h1 : List Int) (h2 : Bool) (h3 : Int) (h4 : List Int) (h5 : List Int) (h6 : List Int) : Option R :=
  cond (decide (h3 < 10))
    (spec_l01Reach_l0 k
      (fun y1 y2 y3 y4 y5 y6 =>
        rec y1 y2 (IntKind.wrap .i64 (y3 + 1)) y4 y5 y6)
      h1 h2 h3 0 h4 h5 h6)
    (K1 h1 h2 h4 h5 h6)

def spec_l01Reach_l1 {R : Type} (k : Nat) (K1 : (List Int) → Bool → (List Int) → (List Int) → (List Int) → Option R) (h1 : List Int) (h2 : Bool) (h3 : Int) (h4 : List Int) (h5 : List Int) (h6 : List Int) : Option R :=
  loopF (fun (rec : (List Int) × Bool × Int × (List Int) × (List Int) × (List Int) → Option R) (p : (List Int) × Bool × Int × (List Int) × (List Int) × (List Int)) => spec_l01Reach_s1 k K1 (fun h1 h2 h3 h4 h5 h6 => rec (h1, h2, h3, h4, h5, h6)) p.1 p.2.1 p.2.2.1 p.2.2.2.1 p.2.2.2.2.1 p.2.2.2.2.2) k (h1, h2, h3, h4, h5, h6)

def spec_l01Reach_s2 {R : Type} (k : Nat) (K1 : (List Int) → Bool → Int → (List Int) → (List Int) → (List Int) → Option R) (rec : (List Int) → Bool → Int → Int → (List Int) → (List Int) → (List Int) → (List Int) → Option R) (h1 : List Int) (h2 : Bool) (h3 : Int) (h4 : Int) (h5 : List Int) (h6 : List Int) (h7 : List Int) (h8 : List Int) : Option R :=
  cond (decide (h4 < ((cnt 2 h8) : Int)))
    (cond ((decide (0 ≤ h4)) && (decide (h4 < ((cnt 2 h8) : Int))))
      (Option.bind (spec_l01Open k h1 [(rd h8 (h4.toNat * 2)), (rd h8 ((h4.toNat * 2) + 1))]) fun x1 =>
        cond (!x1)
          (rec h1 h2 h3 (IntKind.wrap .i64 (h4 + 1)) h5 h6 h7 h8)
          (cond h2
            (cond ((decide (0 ≤ h4)) && (decide (h4 < ((cnt 2 h8) : Int))))
              (Option.bind (spec_l01At k h1 [(rd h8 (h4.toNat * 2)), (rd h8 ((h4.toNat * 2) + 1))]) fun x2 =>
                cond (x2 != 0)
                  (rec h1 h2 h3 (IntKind.wrap .i64 (h4 + 1)) h5 h6 h7 h8)
                  (cond ((decide (0 ≤ h4)) && (decide (h4 < ((cnt 2 h8) : Int))))
                    (cond ((decide (0 ≤ h4)) && (decide (h4 < ((cnt 2 h8) : Int))))
                      (cond ((decide (0 ≤ (rd h8 ((h4.toNat * 2) + 1)))) && (decide ((rd h8 ((h4.toNat * 2) + 1)) < 10)))
                        (cond ((decide (0 ≤ (rd h8 (h4.toNat * 2)))) && (decide ((rd h8 (h4.toNat * 2)) < 10)))
                          (cond (decide ((rd h6 ((0 + (rd h8 ((h4.toNat * 2) + 1)).toNat * 10) + (rd h8 (h4.toNat * 2)).toNat * 1)) ≥ 0))
                            (rec h1 h2 h3 (IntKind.wrap .i64 (h4 + 1)) h5 h6 h7 h8)
                            (cond ((decide (0 ≤ h4)) && (decide (h4 < ((cnt 2 h8) : Int))))
                              (cond ((decide (0 ≤ h4)) && (decide (h4 < ((cnt 2 h8) : Int))))
                                (cond ((decide (0 ≤ h3)) && (decide (h3 < ((cnt 2 h7) : Int))))
                                  (cond ((decide (0 ≤ h3)) && (decide (h3 < ((cnt 2 h7) : Int))))
                                    (cond ((decide (0 ≤ (rd h7 ((h3.toNat * 2) + 1)))) && (decide ((rd h7 ((h3.toNat * 2) + 1)) < 10)))
                                      (cond ((decide (0 ≤ (rd h7 (h3.toNat * 2)))) && (decide ((rd h7 (h3.toNat * 2)) < 10)))
                                        (cond ((decide (0 ≤ (rd h8 ((h4.toNat * 2) + 1)))) && (decide ((rd h8 ((h4.toNat * 2) + 1)) < 10)))
                                          (cond ((decide (0 ≤ (rd h8 (h4.toNat * 2)))) && (decide ((rd h8 (h4.toNat * 2)) < 10)))
                                            (cond ((decide (0 ≤ h4)) && (decide (h4 < ((cnt 2 h8) : Int))))
                                              (cond (decide (h7.length + 2 ≤ bigLen))
                                                (rec h1 h2 h3 (IntKind.wrap .i64 (h4 + 1)) h5 (List.set h6 ((0 + (rd h8 ((h4.toNat * 2) + 1)).toNat * 10) + (rd h8 (h4.toNat * 2)).toNat * 1) (IntKind.wrap .i64 ((rd h6 ((0 + (rd h7 ((h3.toNat * 2) + 1)).toNat * 10) + (rd h7 (h3.toNat * 2)).toNat * 1)) + 1))) (h7 ++ [(rd h8 (h4.toNat * 2)), (rd h8 ((h4.toNat * 2) + 1))]) h8)
                                                none)
                                              none)
                                            none)
                                          none)
                                        none)
                                      none)
                                    none)
                                  none)
                                none)
                              none))
                          none)
                        none)
                      none)
                    none))
              none)
            (cond ((decide (0 ≤ h4)) && (decide (h4 < ((cnt 2 h8) : Int))))
              (cond ((decide (0 ≤ h4)) && (decide (h4 < ((cnt 2 h8) : Int))))
                (cond ((decide (0 ≤ (rd h8 ((h4.toNat * 2) + 1)))) && (decide ((rd h8 ((h4.toNat * 2) + 1)) < 10)))
                  (cond ((decide (0 ≤ (rd h8 (h4.toNat * 2)))) && (decide ((rd h8 (h4.toNat * 2)) < 10)))
                    (cond (decide ((rd h6 ((0 + (rd h8 ((h4.toNat * 2) + 1)).toNat * 10) + (rd h8 (h4.toNat * 2)).toNat * 1)) ≥ 0))
                      (rec h1 h2 h3 (IntKind.wrap .i64 (h4 + 1)) h5 h6 h7 h8)
                      (cond ((decide (0 ≤ h4)) && (decide (h4 < ((cnt 2 h8) : Int))))
                        (cond ((decide (0 ≤ h4)) && (decide (h4 < ((cnt 2 h8) : Int))))
                          (cond ((decide (0 ≤ h3)) && (decide (h3 < ((cnt 2 h7) : Int))))
                            (cond ((decide (0 ≤ h3)) && (decide (h3 < ((cnt 2 h7) : Int))))
                              (cond ((decide (0 ≤ (rd h7 ((h3.toNat * 2) + 1)))) && (decide ((rd h7 ((h3.toNat * 2) + 1)) < 10)))
                                (cond ((decide (0 ≤ (rd h7 (h3.toNat * 2)))) && (decide ((rd h7 (h3.toNat * 2)) < 10)))
                                  (cond ((decide (0 ≤ (rd h8 ((h4.toNat * 2) + 1)))) && (decide ((rd h8 ((h4.toNat * 2) + 1)) < 10)))
                                    (cond ((decide (0 ≤ (rd h8 (h4.toNat * 2)))) && (decide ((rd h8 (h4.toNat * 2)) < 10)))
                                      (cond ((decide (0 ≤ h4)) && (decide (h4 < ((cnt 2 h8) : Int))))
                                        (cond (decide (h7.length + 2 ≤ bigLen))
                                          (rec h1 h2 h3 (IntKind.wrap .i64 (h4 + 1)) h5 (List.set h6 ((0 + (rd h8 ((h4.toNat * 2) + 1)).toNat * 10) + (rd h8 (h4.toNat * 2)).toNat * 1) (IntKind.wrap .i64 ((rd h6 ((0 + (rd h7 ((h3.toNat * 2) + 1)).toNat * 10) + (rd h7 (h3.toNat * 2)).toNat * 1)) + 1))) (h7 ++ [(rd h8 (h4.toNat * 2)), (rd h8 ((h4.toNat * 2) + 1))]) h8)
                                          none)
                                        none)
                                      none)
                                    none)
                                  none)
                                none)
                              none)
                            none)
                          none)
                        none))
                    none)
                  none)
                none)
              none)))
      none)
    (K1 h1 h2 h3 h5 h6 h7)

def spec_l01Reach_l2 {R : Type} (k : Nat) (K1 : (List Int) → Bool → Int → (List Int) → (List Int) → (List Int) → Option R) (h1 : List Int) (h2 : Bool) (h3 : Int) (h4 : Int) (h5 : List Int) (h6 : List Int) (h7 : List Int) (h8 : List Int) : Option R :=
  loopF (fun (rec : (List Int) × Bool × Int × Int × (List Int) × (List Int) × (List Int) × (List Int) → Option R) (p : (List Int) × Bool × Int × Int × (List Int) × (List Int) × (List Int) × (List Int)) => spec_l01Reach_s2 k K1 (fun h1 h2 h3 h4 h5 h6 h7 h8 => rec (h1, h2, h3, h4, h5, h6, h7, h8)) p.1 p.2.1 p.2.2.1 p.2.2.2.1 p.2.2.2.2.1 p.2.2.2.2.2.1 p.2.2.2.2.2.2.1 p.2.2.2.2.2.2.2) k (h1, h2, h3, h4, h5, h6, h7, h8)

def spec_l01Reach_s3 {R : Type} (k : Nat) (K1 : (List Int) → (List Int) → Option R) (rec : (List Int) → Bool → Int → (List Int) → (List Int) → (List Int) → Option R) (h1 : List Int) (h2 : Bool) (h3 : Int) (h4 : List Int) (h5 : List Int) (h6 : List Int) : Option R :=
  cond (decide (h3 < ((cnt 2 h6) : Int)))
    (cond ((decide (0 ≤ h3)) && (decide (h3 < ((cnt 2 h6) : Int))))
      (Option.bind (spec_l01Beside k h1 [(rd h6 (h3.toNat * 2)), (rd h6 ((h3.toNat * 2) + 1))]) fun x1 =>
        spec_l01Reach_l2 k
          (fun y2 y3 y4 y5 y6 y7 =>
            rec y2 y3 (IntKind.wrap .i64 (y4 + 1)) y5 y6 y7)
          h1 h2 h3 0 h4 h5 h6 x1)
      none)
    (K1 h4 h5)

def spec_l01Reach_l3 {R : Type} (k : Nat) (K1 : (List Int) → (List Int) → Option R) (h1 : List Int) (h2 : Bool) (h3 : Int) (h4 : List Int) (h5 : List Int) (h6 : List Int) : Option R :=
  loopF (fun (rec : (List Int) × Bool × Int × (List Int) × (List Int) × (List Int) → Option R) (p : (List Int) × Bool × Int × (List Int) × (List Int) × (List Int)) => spec_l01Reach_s3 k K1 (fun h1 h2 h3 h4 h5 h6 => rec (h1, h2, h3, h4, h5, h6)) p.1 p.2.1 p.2.2.1 p.2.2.2.1 p.2.2.2.2.1 p.2.2.2.2.2) k (h1, h2, h3, h4, h5, h6)

def spec_l01Reach (k : Nat) (a1 : List Int) (a2 : List Int) (a3 : Bool) : Option ((List Int)) :=
  spec_l01Reach_l1 k
    (fun y1 y2 y3 y4 y5 =>
      cond ((decide (0 ≤ (rd y3 1))) && (decide ((rd y3 1) < 10)))
        (cond ((decide (0 ≤ (rd y3 0))) && (decide ((rd y3 0) < 10)))
          (spec_l01Reach_l3 k
            (fun y6 y7 =>
              some y7)
            y1 y2 0 y4 (List.set y5 ((0 + (rd y3 1).toNat * 10) + (rd y3 0).toNat * 1) 0) [(rd y3 0), (rd y3 1)])
          none)
        none)
    a1 a3 0 a2 (List.replicate 100 0) (List.replicate 100 0)

def spec_StepsTo (k : Nat) (a1 : List Int) (a2 : List Int) (a3 : List Int) : Option (Int × Int) :=
  Option.bind (spec_l01Is k a1 [(rd a2 0), (rd a2 1)]) fun x1 =>
    cond x1
      (Option.bind (spec_l01Is k a1 [(rd a3 0), (rd a3 1)]) fun x2 =>
        Option.bind (spec_l01Told k a1 x2) fun x3 =>
          cond (x3 != 0)
            (some (0, x3))
            (Option.bind (spec_l01Open k a1 [(rd a2 0), (rd a2 1)]) fun x4 =>
              cond (!x4)
                (some (0, 4))
                (Option.bind (spec_l01Open k a1 [(rd a3 0), (rd a3 1)]) fun x5 =>
                  cond (!x5)
                    (some (0, 4))
                    (Option.bind (spec_l01Reach k a1 [(rd a2 0), (rd a2 1)] false) fun x6 =>
                      cond ((decide (0 ≤ (rd a3 1))) && (decide ((rd a3 1) < 10)))
                        (cond ((decide (0 ≤ (rd a3 0))) && (decide ((rd a3 0) < 10)))
                          (cond (decide ((rd x6 ((0 + (rd a3 1).toNat * 10) + (rd a3 0).toNat * 1)) < 0))
                            (some (0, 6))
                            (cond ((decide (0 ≤ (rd a3 1))) && (decide ((rd a3 1) < 10)))
                              (cond ((decide (0 ≤ (rd a3 0))) && (decide ((rd a3 0) < 10)))
                                (some ((rd x6 ((0 + (rd a3 1).toNat * 10) + (rd a3 0).toNat * 1)), 0))
                                none)
                              none))
                          none)
                        none))))
      (Option.bind (spec_l01Told k a1 false) fun x7 =>
        cond (x7 != 0)
          (some (0, x7))
          (Option.bind (spec_l01Open k a1 [(rd a2 0), (rd a2 1)]) fun x8 =>
            cond (!x8)
              (some (0, 4))
              (Option.bind (spec_l01Open k a1 [(rd a3 0), (rd a3 1)]) fun x9 =>
                cond (!x9)
                  (some (0, 4))
                  (Option.bind (spec_l01Reach k a1 [(rd a2 0), (rd a2 1)] false) fun x10 =>
                    cond ((decide (0 ≤ (rd a3 1))) && (decide ((rd a3 1) < 10)))
                      (cond ((decide (0 ≤ (rd a3 0))) && (decide ((rd a3 0) < 10)))
                        (cond (decide ((rd x10 ((0 + (rd a3 1).toNat * 10) + (rd a3 0).toNat * 1)) < 0))
                          (some (0, 6))
                          (cond ((decide (0 ≤ (rd a3 1))) && (decide ((rd a3 1) < 10)))
                            (cond ((decide (0 ≤ (rd a3 0))) && (decide ((rd a3 0) < 10)))
                              (some ((rd x10 ((0 + (rd a3 1).toNat * 10) + (rd a3 0).toNat * 1)), 0))
                              none)
                            none))
                        none)
                      none))))

def impl_openCode_1 (k : Nat) (a1 : List Int) (a2 : List Int) : Option (Bool) :=
  Option.bind (impl_Lawn_open k a2 [(rd a1 0), (rd a1 1)]) fun x1 =>
    some (!x1)

def impl_openCode (k : Nat) (a1 : List Int) (a2 : List Int) : Option (Int) :=
  Option.bind (impl_cellsCode k a1 a2) fun x1 =>
    cond (x1 == 0)
      (Option.bind (slices_ContainsFunc_impl_Cell k a2 (fun z2 => (impl_openCode_1 k [(rd z2 0), (rd z2 1)] a1).bind fun b => some b)) fun x3 =>
        cond x3
          (some 4)
          (some x1))
      (some x1)

def math_bits_Mul64 (k : Nat) (a1 : Int) (a2 : Int) : Option (Int × Int) :=
  some ((IntKind.wrap .u64 ((IntKind.wrap .u64 ((IntKind.wrap .u64 ((Int.fdiv a1 (2 ^ (min (32 : Int).toNat (IntKind.bits .u64)))) * (Int.fdiv a2 (2 ^ (min (32 : Int).toNat (IntKind.bits .u64)))))) + (Int.fdiv (IntKind.wrap .u64 ((IntKind.wrap .u64 ((Int.fdiv a1 (2 ^ (min (32 : Int).toNat (IntKind.bits .u64)))) * (IntKind.wrap .u64 ((BitVec.ofInt (IntKind.bits .u64) a2 &&& BitVec.ofInt (IntKind.bits .u64) 4294967295).toNat : Int)))) + (Int.fdiv (IntKind.wrap .u64 ((IntKind.wrap .u64 ((BitVec.ofInt (IntKind.bits .u64) a1 &&& BitVec.ofInt (IntKind.bits .u64) 4294967295).toNat : Int)) * (IntKind.wrap .u64 ((BitVec.ofInt (IntKind.bits .u64) a2 &&& BitVec.ofInt (IntKind.bits .u64) 4294967295).toNat : Int)))) (2 ^ (min (32 : Int).toNat (IntKind.bits .u64)))))) (2 ^ (min (32 : Int).toNat (IntKind.bits .u64)))))) + (Int.fdiv (IntKind.wrap .u64 ((IntKind.wrap .u64 ((BitVec.ofInt (IntKind.bits .u64) (IntKind.wrap .u64 ((IntKind.wrap .u64 ((Int.fdiv a1 (2 ^ (min (32 : Int).toNat (IntKind.bits .u64)))) * (IntKind.wrap .u64 ((BitVec.ofInt (IntKind.bits .u64) a2 &&& BitVec.ofInt (IntKind.bits .u64) 4294967295).toNat : Int)))) + (Int.fdiv (IntKind.wrap .u64 ((IntKind.wrap .u64 ((BitVec.ofInt (IntKind.bits .u64) a1 &&& BitVec.ofInt (IntKind.bits .u64) 4294967295).toNat : Int)) * (IntKind.wrap .u64 ((BitVec.ofInt (IntKind.bits .u64) a2 &&& BitVec.ofInt (IntKind.bits .u64) 4294967295).toNat : Int)))) (2 ^ (min (32 : Int).toNat (IntKind.bits .u64)))))) &&& BitVec.ofInt (IntKind.bits .u64) 4294967295).toNat : Int)) + (IntKind.wrap .u64 ((IntKind.wrap .u64 ((BitVec.ofInt (IntKind.bits .u64) a1 &&& BitVec.ofInt (IntKind.bits .u64) 4294967295).toNat : Int)) * (Int.fdiv a2 (2 ^ (min (32 : Int).toNat (IntKind.bits .u64)))))))) (2 ^ (min (32 : Int).toNat (IntKind.bits .u64)))))), (IntKind.wrap .u64 (a1 * a2)))

def math_bits_Mul (k : Nat) (a1 : Int) (a2 : Int) : Option (Int × Int) :=
  Option.bind (math_bits_Mul64 k a1 a2) fun x1 =>
    some (x1.1, x1.2)

def slices_Repeat_int64_s0 {R : Type} (k : Nat) (K1 : (List Int) → Option R) (rec : Int → (List Int) → Option R) (h1 : Int) (h2 : List Int) : Option R :=
  cond (decide (h1 < ((cnt 1 h2) : Int)))
    (cond ((decide (0 ≤ h1)) && (decide (h1 ≤ ((cnt 1 h2) : Int))))
      (cond ((decide (0 ≤ h1)) && (decide (h1 ≤ ((cnt 1 h2) : Int))))
        (rec (IntKind.wrap .i64 (h1 + ((min (cnt 1 (win h2 0 (h1.toNat * 1))) ((cnt 1 h2) - h1.toNat) : Nat) : Int))) (copyI 1 h2 (h1.toNat * 1) ((cnt 1 h2) - h1.toNat) (win h2 0 (h1.toNat * 1))))
        none)
      none)
    (K1 h2)

def slices_Repeat_int64_l0 {R : Type} (k : Nat) (K1 : (List Int) → Option R) (h1 : Int) (h2 : List Int) : Option R :=
  loopF (fun (rec : Int × (List Int) → Option R) (p : Int × (List Int)) => slices_Repeat_int64_s0 k K1 (fun h1 h2 => rec (h1, h2)) p.1 p.2) k (h1, h2)

def slices_Repeat_int64 (k : Nat) (a1 : List Int) (a2 : Int) : Option ((List Int)) :=
  cond (decide (a2 < 0))
    none
    (Option.bind (math_bits_Mul k (IntKind.wrap .u64 ((cnt 1 a1) : Int)) (IntKind.wrap .u64 a2)) fun x1 =>
      cond (decide (x1.1 > 0))
        none
        (cond (decide (x1.2 > 9223372036854775807))
          none
          (cond ((decide (0 ≤ (IntKind.wrap .i64 x1.2))) && ((decide ((IntKind.wrap .i64 x1.2) ≤ 4294967296)) && ((IntKind.wrap .i64 x1.2) == (IntKind.wrap .i64 x1.2))))
            (slices_Repeat_int64_l0 k
              (fun y2 =>
                some y2)
              ((min (cnt 1 a1) (cnt 1 (List.replicate ((IntKind.wrap .i64 x1.2).toNat * 1) 0)) : Nat) : Int) (copyI 1 (List.replicate ((IntKind.wrap .i64 x1.2).toNat * 1) 0) 0 (cnt 1 (List.replicate ((IntKind.wrap .i64 x1.2).toNat * 1) 0)) a1))
            none)))

def impl_Lawn_index (k : Nat) (a1 : List Int) (a2 : List Int) : Option (Int) :=
  some (IntKind.wrap .i64 ((IntKind.wrap .i64 ((IntKind.wrap .i64 (rd a2 1)) * (IntKind.wrap .i64 (rd a1 0)))) + (IntKind.wrap .i64 (rd a2 0))))

def impl_Lawn_steps_s0 {R : Type} (k : Nat) (K1 : (List Int → Option Bool) → (List Int) → (List Int) → (List Int) → Option R) (rec : (List Int → Option Bool) → Int → Int → (List Int) → (List Int) → (List Int) → (List Int) → Option R) (h1 : List Int → Option Bool) (h2 : Int) (h3 : Int) (h4 : List Int) (h5 : List Int) (h6 : List Int) (h7 : List Int) : Option R :=
  cond (decide (h3 < h2))
    (cond ((decide (0 ≤ h3)) && (decide (h3 < ((cnt 2 h7) : Int))))
      (Option.bind (impl_Lawn_has k h4 [(rd h7 (h3.toNat * 2)), (rd h7 ((h3.toNat * 2) + 1))]) fun x1 =>
        cond x1
          (Option.bind (h1 [(rd h7 (h3.toNat * 2)), (rd h7 ((h3.toNat * 2) + 1))]) fun x2 =>
            cond x2
              (Option.bind (impl_Lawn_index k h4 [(rd h7 (h3.toNat * 2)), (rd h7 ((h3.toNat * 2) + 1))]) fun x3 =>
                cond ((decide (0 ≤ x3)) && (decide (x3 < ((cnt 1 h5) : Int))))
                  (cond (decide ((rd h5 (x3.toNat * 1)) < 0))
                    (Option.bind (impl_Lawn_index k h4 [(rd h7 (h3.toNat * 2)), (rd h7 ((h3.toNat * 2) + 1))]) fun x4 =>
                      cond (decide (0 < ((cnt 2 h6) : Int)))
                        (Option.bind (impl_Lawn_index k h4 [(rd h6 0), (rd h6 1)]) fun x5 =>
                          cond ((decide (0 ≤ x5)) && (decide (x5 < ((cnt 1 h5) : Int))))
                            (cond ((decide (0 ≤ x4)) && (decide (x4 < ((cnt 1 h5) : Int))))
                              (cond (decide (h6.length + 2 ≤ bigLen))
                                (rec h1 h2 (IntKind.wrap .i64 (h3 + 1)) h4 (List.set h5 (x4.toNat * 1) (IntKind.wrap .i64 ((rd h5 (x5.toNat * 1)) + 1))) (h6 ++ [(rd h7 (h3.toNat * 2)), (rd h7 ((h3.toNat * 2) + 1))]) h7)
                                none)
                              none)
                            none)
                        none)
                    (rec h1 h2 (IntKind.wrap .i64 (h3 + 1)) h4 h5 h6 h7))
                  none)
              (rec h1 h2 (IntKind.wrap .i64 (h3 + 1)) h4 h5 h6 h7))
          (rec h1 h2 (IntKind.wrap .i64 (h3 + 1)) h4 h5 h6 h7))
      none)
    (K1 h1 h4 h5 h6)

def impl_Lawn_steps_l0 {R : Type} (k : Nat) (K1 : (List Int → Option Bool) → (List Int) → (List Int) → (List Int) → Option R) (h1 : List Int → Option Bool) (h2 : Int) (h3 : Int) (h4 : List Int) (h5 : List Int) (h6 : List Int) (h7 : List Int) : Option R :=
  loopF (fun (rec : (List Int → Option Bool) × Int × Int × (List Int) × (List Int) × (List Int) × (List Int) → Option R) (p : (List Int → Option Bool) × Int × Int × (List Int) × (List Int) × (List Int) × (List Int)) => impl_Lawn_steps_s0 k K1 (fun h1 h2 h3 h4 h5 h6 h7 => rec (h1, h2, h3, h4, h5, h6, h7)) p.1 p.2.1 p.2.2.1 p.2.2.2.1 p.2.2.2.2.1 p.2.2.2.2.2.1 p.2.2.2.2.2.2) k (h1, h2, h3, h4, h5, h6, h7)

def impl_Lawn_steps_s1 {R : Type} (k : Nat) (K1 : (List Int) → Option R) (rec : (List Int → Option Bool) → (List Int) → (List Int) → (List Int) → Option R) (h1 : List Int → Option Bool) (h2 : List Int) (h3 : List Int) (h4 : List Int) : Option R :=
  cond (decide (((cnt 2 h4) : Int) > 0))
    (cond (decide (0 < ((cnt 2 h4) : Int)))
      (Option.bind (impl_beside k [(rd h4 0), (rd h4 1)]) fun x1 =>
        impl_Lawn_steps_l0 k
          (fun y2 y3 y4 y5 =>
            cond (decide (1 ≤ ((cnt 2 y5) : Int)))
              (rec y2 y3 y4 (win y5 2 (((cnt 2 y5) - 1) * 2)))
              none)
          h1 ((cnt 2 x1) : Int) 0 h2 h3 h4 x1)
      none)
    (K1 h3)

def impl_Lawn_steps_l1 {R : Type} (k : Nat) (K1 : (List Int) → Option R) (h1 : List Int → Option Bool) (h2 : List Int) (h3 : List Int) (h4 : List Int) : Option R :=
  loopF (fun (rec : (List Int → Option Bool) × (List Int) × (List Int) × (List Int) → Option R) (p : (List Int → Option Bool) × (List Int) × (List Int) × (List Int)) => impl_Lawn_steps_s1 k K1 (fun h1 h2 h3 h4 => rec (h1, h2, h3, h4)) p.1 p.2.1 p.2.2.1 p.2.2.2) k (h1, h2, h3, h4)

def impl_Lawn_steps (k : Nat) (a1 : List Int) (a2 : List Int) (a3 : List Int → Option Bool) : Option ((List Int)) :=
  Option.bind (slices_Repeat_int64 k [(-1)] (IntKind.wrap .i64 ((IntKind.wrap .i64 (rd a1 0)) * (IntKind.wrap .i64 (rd a1 1))))) fun x1 =>
    Option.bind (impl_Lawn_index k a1 [(rd a2 0), (rd a2 1)]) fun x2 =>
      cond ((decide (0 ≤ x2)) && (decide (x2 < ((cnt 1 x1) : Int))))
        (impl_Lawn_steps_l1 k
          (fun y3 =>
            some y3)
          a3 a1 (List.set x1 (x2.toNat * 1) 0) [(rd a2 0), (rd a2 1)])
        none

def impl_StepsTo (k : Nat) (a1 : List Int) (a2 : List Int) (a3 : List Int) : Option (Int × Int) :=
  Option.bind (impl_openCode k a1 [(rd a2 0), (rd a2 1), (rd a3 0), (rd a3 1)]) fun x1 =>
    cond (x1 != 0)
      (some (0, x1))
      (Option.bind (impl_Lawn_steps k a1 [(rd a2 0), (rd a2 1)] (fun z2 => (impl_Lawn_open k a1 [(rd z2 0), (rd z2 1)]).bind fun b => some b)) fun x3 =>
        Option.bind (impl_Lawn_index k a1 [(rd a3 0), (rd a3 1)]) fun x4 =>
          cond ((decide (0 ≤ x4)) && (decide (x4 < ((cnt 1 x3) : Int))))
            (cond (decide ((rd x3 (x4.toNat * 1)) < 0))
              (some (0, 6))
              (some ((rd x3 (x4.toNat * 1)), 0)))
            none)

def laws_FnExactStepsTo (k : Nat) (a1 : List Int) (a2 : List Int) (a3 : List Int) : Option (Bool) :=
  Option.bind (laws_toLawn k a1) fun x1 =>
    Option.bind (laws_toCell k [(rd a2 0), (rd a2 1)]) fun x2 =>
      Option.bind (laws_toCell k [(rd a3 0), (rd a3 1)]) fun x3 =>
        Option.bind (spec_StepsTo k x1 x2 x3) fun x4 =>
          Option.bind (laws_toLawn k a1) fun x5 =>
            Option.bind (laws_toCell k [(rd a2 0), (rd a2 1)]) fun x6 =>
              Option.bind (laws_toCell k [(rd a3 0), (rd a3 1)]) fun x7 =>
                Option.bind (impl_StepsTo k x5 x6 x7) fun x8 =>
                  cond (x8.1 != x4.1)
                    (some false)
                    (cond (x8.2 != x4.2)
                      (some false)
                      (some true))


end Go.Proofs.Ytmpcninebooaiaa.Tt
