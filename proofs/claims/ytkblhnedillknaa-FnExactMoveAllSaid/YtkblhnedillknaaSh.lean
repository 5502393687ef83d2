/- The functions in plain Lean. -/
import Derived.Test.YtkblhnedillknaaE6
import Derived.Lib.Bytealg
set_option linter.unusedVariables false
set_option linter.unusedSimpArgs false
set_option linter.unusedVariables false
namespace Go.Proofs.Ytkblhnedillknaa.Tt
open Go.Ev Go

def laws_toByteA10_s0 {R : Type} (k : Nat) (K1 : (List Int) → (List Int) → Option R) (rec : Int → (List Int) → (List Int) → (List Int) → Option R) (h1 : Int) (h2 : List Int) (h3 : List Int) (h4 : List Int) : Option R :=
  cond (decide (h1 < 10))
    (cond ((decide (0 ≤ h1)) && (decide (h1 < 10)))
      (cond ((decide (0 ≤ h1)) && (decide (h1 < 10)))
        (rec (IntKind.wrap .i64 (h1 + 1)) h2 h3 (List.set h4 (0 + h1.toNat * 1) (rd h2 (0 + h1.toNat * 1))))
        none)
      none)
    (K1 h3 h4)

def laws_toByteA10_l0 {R : Type} (k : Nat) (K1 : (List Int) → (List Int) → Option R) (h1 : Int) (h2 : List Int) (h3 : List Int) (h4 : List Int) : Option R :=
  loopF (fun (rec : Int × (List Int) × (List Int) × (List Int) → Option R) (p : Int × (List Int) × (List Int) × (List Int)) => laws_toByteA10_s0 k K1 (fun h1 h2 h3 h4 => rec (h1, h2, h3, h4)) p.1 p.2.1 p.2.2.1 p.2.2.2) k (h1, h2, h3, h4)

def laws_toByteA10 (k : Nat) (a1 : List Int) : Option ((List Int)) :=
  laws_toByteA10_l0 k
    (fun y1 y2 =>
      some y2)
    0 a1 [0, 0, 0, 0, 0, 0, 0, 0, 0, 0] [0, 0, 0, 0, 0, 0, 0, 0, 0, 0]

def laws_toByteA10A10_s0 {R : Type} (k : Nat) (K1 : (List Int) → (List Int) → Option R) (rec : Int → (List Int) → (List Int) → (List Int) → Option R) (h1 : Int) (h2 : List Int) (h3 : List Int) (h4 : List Int) : Option R :=
  cond (decide (h1 < 10))
    (cond ((decide (0 ≤ h1)) && (decide (h1 < 10)))
      (Option.bind (laws_toByteA10 k (win h2 (0 + h1.toNat * 10) 10)) fun x1 =>
        cond ((decide (0 ≤ h1)) && (decide (h1 < 10)))
          (rec (IntKind.wrap .i64 (h1 + 1)) h2 h3 (setWin h4 (0 + h1.toNat * 10) 10 x1))
          none)
      none)
    (K1 h3 h4)

def laws_toByteA10A10_l0 {R : Type} (k : Nat) (K1 : (List Int) → (List Int) → Option R) (h1 : Int) (h2 : List Int) (h3 : List Int) (h4 : List Int) : Option R :=
  loopF (fun (rec : Int × (List Int) × (List Int) × (List Int) → Option R) (p : Int × (List Int) × (List Int) × (List Int)) => laws_toByteA10A10_s0 k K1 (fun h1 h2 h3 h4 => rec (h1, h2, h3, h4)) p.1 p.2.1 p.2.2.1 p.2.2.2) k (h1, h2, h3, h4)

def laws_toByteA10A10 (k : Nat) (a1 : List Int) : Option ((List Int)) :=
  laws_toByteA10A10_l0 k
    (fun y1 y2 =>
      some y2)
    0 a1 (List.replicate 100 0) (List.replicate 100 0)

def laws_toLawn (k : Nat) (a1 : List Int) : Option ((List Int)) :=
  Option.bind (laws_toByteA10A10 k (win a1 2 100)) fun x1 =>
    some (setWin (List.set (List.set (List.replicate 102 0) 0 (rd a1 0)) 1 (rd a1 1)) 2 100 x1)

def laws_toInt8A10_s0 {R : Type} (k : Nat) (K1 : (List Int) → (List Int) → Option R) (rec : Int → (List Int) → (List Int) → (List Int) → Option R) (h1 : Int) (h2 : List Int) (h3 : List Int) (h4 : List Int) : Option R :=
  cond (decide (h1 < 10))
    (cond ((decide (0 ≤ h1)) && (decide (h1 < 10)))
      (cond ((decide (0 ≤ h1)) && (decide (h1 < 10)))
        (rec (IntKind.wrap .i64 (h1 + 1)) h2 h3 (List.set h4 (0 + h1.toNat * 1) (rd h2 (0 + h1.toNat * 1))))
        none)
      none)
    (K1 h3 h4)

def laws_toInt8A10_l0 {R : Type} (k : Nat) (K1 : (List Int) → (List Int) → Option R) (h1 : Int) (h2 : List Int) (h3 : List Int) (h4 : List Int) : Option R :=
  loopF (fun (rec : Int × (List Int) × (List Int) × (List Int) → Option R) (p : Int × (List Int) × (List Int) × (List Int)) => laws_toInt8A10_s0 k K1 (fun h1 h2 h3 h4 => rec (h1, h2, h3, h4)) p.1 p.2.1 p.2.2.1 p.2.2.2) k (h1, h2, h3, h4)

def laws_toInt8A10 (k : Nat) (a1 : List Int) : Option ((List Int)) :=
  laws_toInt8A10_l0 k
    (fun y1 y2 =>
      some y2)
    0 a1 [0, 0, 0, 0, 0, 0, 0, 0, 0, 0] [0, 0, 0, 0, 0, 0, 0, 0, 0, 0]

def laws_toLevels_s0 {R : Type} (k : Nat) (K1 : (List Int) → (List Int) → Option R) (rec : Int → (List Int) → (List Int) → (List Int) → Option R) (h1 : Int) (h2 : List Int) (h3 : List Int) (h4 : List Int) : Option R :=
  cond (decide (h1 < 10))
    (cond ((decide (0 ≤ h1)) && (decide (h1 < 10)))
      (Option.bind (laws_toInt8A10 k (win h2 (0 + h1.toNat * 10) 10)) fun x1 =>
        cond ((decide (0 ≤ h1)) && (decide (h1 < 10)))
          (rec (IntKind.wrap .i64 (h1 + 1)) h2 h3 (setWin h4 (0 + h1.toNat * 10) 10 x1))
          none)
      none)
    (K1 h3 h4)

def laws_toLevels_l0 {R : Type} (k : Nat) (K1 : (List Int) → (List Int) → Option R) (h1 : Int) (h2 : List Int) (h3 : List Int) (h4 : List Int) : Option R :=
  loopF (fun (rec : Int × (List Int) × (List Int) × (List Int) → Option R) (p : Int × (List Int) × (List Int) × (List Int)) => laws_toLevels_s0 k K1 (fun h1 h2 h3 h4 => rec (h1, h2, h3, h4)) p.1 p.2.1 p.2.2.1 p.2.2.2) k (h1, h2, h3, h4)

def laws_toLevels (k : Nat) (a1 : List Int) : Option ((List Int)) :=
  laws_toLevels_l0 k
    (fun y1 y2 =>
      some y2)
    0 a1 (List.replicate 100 0) (List.replicate 100 0)

def spec_l00In (k : Nat) (a1 : Int) (a2 : Int) (a3 : Int) : Option (Bool) :=
  cond (decide (a1 ≥ a2))
    (some (decide (a1 ≤ a3)))
    (some false)

def spec_l01Side (k : Nat) (a1 : Int) : Option (Bool) :=
  Option.bind (spec_l00In k a1 1 10) fun x1 =>
    some x1

def spec_l01Kind (k : Nat) (a1 : Int) : Option (Bool) :=
  Option.bind (spec_l00In k a1 0 3) fun x1 =>
    some x1

def spec_l01Is (k : Nat) (a1 : List Int) (a2 : List Int) : Option (Bool) :=
  Option.bind (spec_l00In k (IntKind.wrap .i64 (rd a2 0)) 0 (IntKind.wrap .i64 ((IntKind.wrap .i64 (rd a1 0)) - 1))) fun x1 =>
    cond x1
      (Option.bind (spec_l00In k (IntKind.wrap .i64 (rd a2 1)) 0 (IntKind.wrap .i64 ((IntKind.wrap .i64 (rd a1 1)) - 1))) fun x2 =>
        some x2)
      (some false)

def spec_l01Ok_s0 {R : Type} (k : Nat) (K1 : Bool → Option R) (K2 : (List Int) → Int → Option R) (rec : (List Int) → Int → Int → Option R) (h1 : List Int) (h2 : Int) (h3 : Int) : Option R :=
  cond (decide (h3 < 10))
    (cond ((decide (0 ≤ h2)) && (decide (h2 < 10)))
      (cond ((decide (0 ≤ h3)) && (decide (h3 < 10)))
        (Option.bind (spec_l01Kind k (IntKind.wrap .i64 (rd h1 ((2 + h2.toNat * 10) + h3.toNat * 1)))) fun x1 =>
          cond (!x1)
            (K1 false)
            (cond ((IntKind.wrap .i64 (rd h1 ((2 + h2.toNat * 10) + h3.toNat * 1))) != 0)
              (Option.bind (spec_l01Is k h1 [h3, h2]) fun x2 =>
                cond (!x2)
                  (K1 false)
                  (rec h1 h2 (IntKind.wrap .i8 (h3 + 1))))
              (rec h1 h2 (IntKind.wrap .i8 (h3 + 1)))))
        none)
      none)
    (K2 h1 h2)

def spec_l01Ok_l0 {R : Type} (k : Nat) (K1 : Bool → Option R) (K2 : (List Int) → Int → Option R) (h1 : List Int) (h2 : Int) (h3 : Int) : Option R :=
  loopF (fun (rec : (List Int) × Int × Int → Option R) (p : (List Int) × Int × Int) => spec_l01Ok_s0 k K1 K2 (fun h1 h2 h3 => rec (h1, h2, h3)) p.1 p.2.1 p.2.2) k (h1, h2, h3)

def spec_l01Ok_s1 {R : Type} (k : Nat) (K1 : Bool → Option R) (K2 : Option R) (rec : (List Int) → Int → Option R) (h1 : List Int) (h2 : Int) : Option R :=
  cond (decide (h2 < 10))
    (spec_l01Ok_l0 k
      (fun y1 =>
        K1 y1)
      (fun y2 y3 =>
        rec y2 (IntKind.wrap .i8 (y3 + 1)))
      h1 h2 0)
    (K2)

def spec_l01Ok_l1 {R : Type} (k : Nat) (K1 : Bool → Option R) (K2 : Option R) (h1 : List Int) (h2 : Int) : Option R :=
  loopF (fun (rec : (List Int) × Int → Option R) (p : (List Int) × Int) => spec_l01Ok_s1 k K1 K2 (fun h1 h2 => rec (h1, h2)) p.1 p.2) k (h1, h2)

def spec_l01Ok (k : Nat) (a1 : List Int) : Option (Bool) :=
  Option.bind (spec_l01Side k (IntKind.wrap .i64 (rd a1 0))) fun x1 =>
    cond (!x1)
      (some false)
      (Option.bind (spec_l01Side k (IntKind.wrap .i64 (rd a1 1))) fun x2 =>
        cond (!x2)
          (some false)
          (spec_l01Ok_l1 k
            (fun y3 =>
              some y3)
            (some true)
            a1 0))

def spec_l06Level (k : Nat) (a1 : Int) : Option (Bool) :=
  Option.bind (spec_l00In k a1 (-9) 9) fun x1 =>
    some x1

def spec_l01At (k : Nat) (a1 : List Int) (a2 : List Int) : Option (Int) :=
  cond ((decide (0 ≤ (rd a2 1))) && (decide ((rd a2 1) < 10)))
    (cond ((decide (0 ≤ (rd a2 0))) && (decide ((rd a2 0) < 10)))
      (some (IntKind.wrap .i64 (rd a1 ((2 + (rd a2 1).toNat * 10) + (rd a2 0).toNat * 1))))
      none)
    none

def spec_l01Grass (k : Nat) (a1 : List Int) (a2 : List Int) : Option (Bool) :=
  Option.bind (spec_l01Is k a1 [(rd a2 0), (rd a2 1)]) fun x1 =>
    cond x1
      (Option.bind (spec_l01At k a1 [(rd a2 0), (rd a2 1)]) fun x2 =>
        some (x2 == 0))
      (some false)

def spec_l06Ok_s0 {R : Type} (k : Nat) (K1 : Bool → Option R) (K2 : (List Int) → (List Int) → Int → Option R) (rec : (List Int) → (List Int) → Int → Int → Option R) (h1 : List Int) (h2 : List Int) (h3 : Int) (h4 : Int) : Option R :=
  cond (decide (h4 < 10))
    (cond ((decide (0 ≤ h3)) && (decide (h3 < 10)))
      (cond ((decide (0 ≤ h4)) && (decide (h4 < 10)))
        (Option.bind (spec_l06Level k (IntKind.wrap .i64 (rd h2 ((0 + h3.toNat * 10) + h4.toNat * 1)))) fun x1 =>
          cond (!x1)
            (K1 false)
            (cond ((IntKind.wrap .i64 (rd h2 ((0 + h3.toNat * 10) + h4.toNat * 1))) != 0)
              (Option.bind (spec_l01Grass k h1 [h4, h3]) fun x2 =>
                cond (!x2)
                  (K1 false)
                  (rec h1 h2 h3 (IntKind.wrap .i8 (h4 + 1))))
              (rec h1 h2 h3 (IntKind.wrap .i8 (h4 + 1)))))
        none)
      none)
    (K2 h1 h2 h3)

def spec_l06Ok_l0 {R : Type} (k : Nat) (K1 : Bool → Option R) (K2 : (List Int) → (List Int) → Int → Option R) (h1 : List Int) (h2 : List Int) (h3 : Int) (h4 : Int) : Option R :=
  loopF (fun (rec : (List Int) × (List Int) × Int × Int → Option R) (p : (List Int) × (List Int) × Int × Int) => spec_l06Ok_s0 k K1 K2 (fun h1 h2 h3 h4 => rec (h1, h2, h3, h4)) p.1 p.2.1 p.2.2.1 p.2.2.2) k (h1, h2, h3, h4)

def spec_l06Ok_s1 {R : Type} (k : Nat) (K1 : Bool → Option R) (K2 : Option R) (rec : (List Int) → (List Int) → Int → Option R) (h1 : List Int) (h2 : List Int) (h3 : Int) : Option R :=
  cond (decide (h3 < 10))
    (spec_l06Ok_l0 k
      (fun y1 =>
        K1 y1)
      (fun y2 y3 y4 =>
        rec y2 y3 (IntKind.wrap .i8 (y4 + 1)))
      h1 h2 h3 0)
    (K2)

def spec_l06Ok_l1 {R : Type} (k : Nat) (K1 : Bool → Option R) (K2 : Option R) (h1 : List Int) (h2 : List Int) (h3 : Int) : Option R :=
  loopF (fun (rec : (List Int) × (List Int) × Int → Option R) (p : (List Int) × (List Int) × Int) => spec_l06Ok_s1 k K1 K2 (fun h1 h2 h3 => rec (h1, h2, h3)) p.1 p.2.1 p.2.2) k (h1, h2, h3)

def spec_l06Ok (k : Nat) (a1 : List Int) (a2 : List Int) : Option (Bool) :=
  Option.bind (spec_l01Ok k a1) fun x1 =>
    cond (!x1)
      (some false)
      (spec_l06Ok_l1 k
        (fun y2 =>
          some y2)
        (some true)
        a1 a2 0)

def spec_l06Asked (k : Nat) (a1 : List Int) (a2 : List Int) (a3 : Bool) : Option (Int) :=
  Option.bind (spec_l06Ok k a1 a2) fun x1 =>
    cond (!x1)
      (some 1)
      (cond (!a3)
        (some 2)
        (some 0))

def spec_l01All_s0 {R : Type} (k : Nat) (K1 : (List Int) → Int → (List Int) → Option R) (rec : (List Int) → Int → Int → (List Int) → Option R) (h1 : List Int) (h2 : Int) (h3 : Int) (h4 : List Int) : Option R :=
  cond (decide (h3 < (rd h1 0)))
    (cond (decide (h4.length + 2 ≤ bigLen))
      (rec h1 h2 (IntKind.wrap .i8 (h3 + 1)) (h4 ++ [h3, h2]))
      none)
    (K1 h1 h2 h4)

def spec_l01All_l0 {R : Type} (k : Nat) (K1 : (List Int) → Int → (List Int) → Option R) (h1 : List Int) (h2 : Int) (h3 : Int) (h4 : List Int) : Option R :=
  loopF (fun (rec : (List Int) × Int × Int × (List Int) → Option R) (p : (List Int) × Int × Int × (List Int)) => spec_l01All_s0 k K1 (fun h1 h2 h3 h4 => rec (h1, h2, h3, h4)) p.1 p.2.1 p.2.2.1 p.2.2.2) k (h1, h2, h3, h4)

def spec_l01All_s1 {R : Type} (k : Nat) (K1 : (List Int) → Option R) (rec : (List Int) → Int → (List Int) → Option R) (h1 : List Int) (h2 : Int) (h3 : List Int) : Option R :=
  cond (decide (h2 < (rd h1 1)))
    (spec_l01All_l0 k
      (fun y1 y2 y3 =>
        rec y1 (IntKind.wrap .i8 (y2 + 1)) y3)
      h1 h2 0 h3)
    (K1 h3)

def spec_l01All_l1 {R : Type} (k : Nat) (K1 : (List Int) → Option R) (h1 : List Int) (h2 : Int) (h3 : List Int) : Option R :=
  loopF (fun (rec : (List Int) × Int × (List Int) → Option R) (p : (List Int) × Int × (List Int)) => spec_l01All_s1 k K1 (fun h1 h2 h3 => rec (h1, h2, h3)) p.1 p.2.1 p.2.2) k (h1, h2, h3)

def spec_l01All (k : Nat) (a1 : List Int) : Option ((List Int)) :=
  spec_l01All_l1 k
    (fun y1 =>
      some y1)
    a1 0 []

def spec_l01Cells_s0 {R : Type} (k : Nat) (K1 : (List Int) → Option R) (rec : (List Int) → Int → Int → (List Int) → (List Int) → Option R) (h1 : List Int) (h2 : Int) (h3 : Int) (h4 : List Int) (h5 : List Int) : Option R :=
  cond (decide (h3 < ((cnt 2 h5) : Int)))
    (cond ((decide (0 ≤ h3)) && (decide (h3 < ((cnt 2 h5) : Int))))
      (Option.bind (spec_l01At k h1 [(rd h5 (h3.toNat * 2)), (rd h5 ((h3.toNat * 2) + 1))]) fun x1 =>
        cond (x1 == h2)
          (cond ((decide (0 ≤ h3)) && (decide (h3 < ((cnt 2 h5) : Int))))
            (cond (decide (h4.length + 2 ≤ bigLen))
              (rec h1 h2 (IntKind.wrap .i64 (h3 + 1)) (h4 ++ [(rd h5 (h3.toNat * 2)), (rd h5 ((h3.toNat * 2) + 1))]) h5)
              none)
            none)
          (rec h1 h2 (IntKind.wrap .i64 (h3 + 1)) h4 h5))
      none)
    (K1 h4)

def spec_l01Cells_l0 {R : Type} (k : Nat) (K1 : (List Int) → Option R) (h1 : List Int) (h2 : Int) (h3 : Int) (h4 : List Int) (h5 : List Int) : Option R :=
  loopF (fun (rec : (List Int) × Int × Int × (List Int) × (List Int) → Option R) (p : (List Int) × Int × Int × (List Int) × (List Int)) => spec_l01Cells_s0 k K1 (fun h1 h2 h3 h4 h5 => rec (h1, h2, h3, h4, h5)) p.1 p.2.1 p.2.2.1 p.2.2.2.1 p.2.2.2.2) k (h1, h2, h3, h4, h5)

def spec_l01Cells (k : Nat) (a1 : List Int) (a2 : Int) : Option ((List Int)) :=
  Option.bind (spec_l01All k a1) fun x1 =>
    spec_l01Cells_l0 k
      (fun y2 =>
        some y2)
      a1 a2 0 [] x1

def spec_l06At (k : Nat) (a1 : List Int) (a2 : List Int) : Option (Int) :=
  cond ((decide (0 ≤ (rd a2 1))) && (decide ((rd a2 1) < 10)))
    (cond ((decide (0 ≤ (rd a2 0))) && (decide ((rd a2 0) < 10)))
      (some (IntKind.wrap .i64 (rd a1 ((0 + (rd a2 1).toNat * 10) + (rd a2 0).toNat * 1))))
      none)
    none

def spec_l00Max (k : Nat) (a1 : Int) (a2 : Int) : Option (Int) :=
  cond (decide (a1 > a2))
    (some a1)
    (some a2)

def spec_l06Far (k : Nat) (a1 : List Int) (a2 : List Int) (a3 : List Int) : Option (Int) :=
  Option.bind (spec_l06At k a1 [(rd a2 0), (rd a2 1)]) fun x1 =>
    Option.bind (spec_l06At k a1 [(rd a3 0), (rd a3 1)]) fun x2 =>
      Option.bind (spec_l00Max k (IntKind.wrap .i64 (x1 - x2)) (IntKind.wrap .i64 (0 - (IntKind.wrap .i64 (x1 - x2))))) fun x3 =>
        some x3

def spec_SteepSteps_s0 {R : Type} (k : Nat) (K1 : Int → Option R) (rec : Int → Int → Int → (List Int) → (List Int) → (List Int) → Option R) (h1 : Int) (h2 : Int) (h3 : Int) (h4 : List Int) (h5 : List Int) (h6 : List Int) : Option R :=
  cond (decide (h3 < ((cnt 2 h6) : Int)))
    (cond ((decide (0 ≤ h3)) && (decide (h3 < ((cnt 2 h6) : Int))))
      (cond ((decide (0 ≤ h3)) && (decide (h3 < ((cnt 2 h6) : Int))))
        (cond ((decide (0 ≤ h3)) && (decide (h3 < ((cnt 2 h6) : Int))))
          (cond ((decide (0 ≤ h3)) && (decide (h3 < ((cnt 2 h6) : Int))))
            (Option.bind (spec_l01Grass k h4 [(IntKind.wrap .i8 ((rd h6 (h3.toNat * 2)) + 1)), (rd h6 ((h3.toNat * 2) + 1))]) fun x1 =>
              cond x1
                (cond ((decide (0 ≤ h3)) && (decide (h3 < ((cnt 2 h6) : Int))))
                  (Option.bind (spec_l06Far k h5 [(rd h6 (h3.toNat * 2)), (rd h6 ((h3.toNat * 2) + 1))] [(IntKind.wrap .i8 ((rd h6 (h3.toNat * 2)) + 1)), (rd h6 ((h3.toNat * 2) + 1))]) fun x2 =>
                    cond (decide (x2 > h1))
                      (Option.bind (spec_l01Grass k h4 [(rd h6 (h3.toNat * 2)), (IntKind.wrap .i8 ((rd h6 ((h3.toNat * 2) + 1)) + 1))]) fun x3 =>
                        cond x3
                          (cond ((decide (0 ≤ h3)) && (decide (h3 < ((cnt 2 h6) : Int))))
                            (Option.bind (spec_l06Far k h5 [(rd h6 (h3.toNat * 2)), (rd h6 ((h3.toNat * 2) + 1))] [(rd h6 (h3.toNat * 2)), (IntKind.wrap .i8 ((rd h6 ((h3.toNat * 2) + 1)) + 1))]) fun x4 =>
                              cond (decide (x4 > h1))
                                (rec h1 (IntKind.wrap .i64 ((IntKind.wrap .i64 (h2 + 1)) + 1)) (IntKind.wrap .i64 (h3 + 1)) h4 h5 h6)
                                (rec h1 (IntKind.wrap .i64 (h2 + 1)) (IntKind.wrap .i64 (h3 + 1)) h4 h5 h6))
                            none)
                          (rec h1 (IntKind.wrap .i64 (h2 + 1)) (IntKind.wrap .i64 (h3 + 1)) h4 h5 h6))
                      (Option.bind (spec_l01Grass k h4 [(rd h6 (h3.toNat * 2)), (IntKind.wrap .i8 ((rd h6 ((h3.toNat * 2) + 1)) + 1))]) fun x5 =>
                        cond x5
                          (cond ((decide (0 ≤ h3)) && (decide (h3 < ((cnt 2 h6) : Int))))
                            (Option.bind (spec_l06Far k h5 [(rd h6 (h3.toNat * 2)), (rd h6 ((h3.toNat * 2) + 1))] [(rd h6 (h3.toNat * 2)), (IntKind.wrap .i8 ((rd h6 ((h3.toNat * 2) + 1)) + 1))]) fun x6 =>
                              cond (decide (x6 > h1))
                                (rec h1 (IntKind.wrap .i64 (h2 + 1)) (IntKind.wrap .i64 (h3 + 1)) h4 h5 h6)
                                (rec h1 h2 (IntKind.wrap .i64 (h3 + 1)) h4 h5 h6))
                            none)
                          (rec h1 h2 (IntKind.wrap .i64 (h3 + 1)) h4 h5 h6)))
                  none)
                (Option.bind (spec_l01Grass k h4 [(rd h6 (h3.toNat * 2)), (IntKind.wrap .i8 ((rd h6 ((h3.toNat * 2) + 1)) + 1))]) fun x7 =>
                  cond x7
                    (cond ((decide (0 ≤ h3)) && (decide (h3 < ((cnt 2 h6) : Int))))
                      (Option.bind (spec_l06Far k h5 [(rd h6 (h3.toNat * 2)), (rd h6 ((h3.toNat * 2) + 1))] [(rd h6 (h3.toNat * 2)), (IntKind.wrap .i8 ((rd h6 ((h3.toNat * 2) + 1)) + 1))]) fun x8 =>
                        cond (decide (x8 > h1))
                          (rec h1 (IntKind.wrap .i64 (h2 + 1)) (IntKind.wrap .i64 (h3 + 1)) h4 h5 h6)
                          (rec h1 h2 (IntKind.wrap .i64 (h3 + 1)) h4 h5 h6))
                      none)
                    (rec h1 h2 (IntKind.wrap .i64 (h3 + 1)) h4 h5 h6)))
            none)
          none)
        none)
      none)
    (K1 h2)

def spec_SteepSteps_l0 {R : Type} (k : Nat) (K1 : Int → Option R) (h1 : Int) (h2 : Int) (h3 : Int) (h4 : List Int) (h5 : List Int) (h6 : List Int) : Option R :=
  loopF (fun (rec : Int × Int × Int × (List Int) × (List Int) × (List Int) → Option R) (p : Int × Int × Int × (List Int) × (List Int) × (List Int)) => spec_SteepSteps_s0 k K1 (fun h1 h2 h3 h4 h5 h6 => rec (h1, h2, h3, h4, h5, h6)) p.1 p.2.1 p.2.2.1 p.2.2.2.1 p.2.2.2.2.1 p.2.2.2.2.2) k (h1, h2, h3, h4, h5, h6)

def spec_SteepSteps (k : Nat) (a1 : List Int) (a2 : List Int) (a3 : Int) : Option (Int × Int) :=
  Option.bind (spec_l00In k a3 0 18) fun x1 =>
    Option.bind (spec_l06Asked k a1 a2 x1) fun x2 =>
      cond (x2 != 0)
        (some (0, x2))
        (Option.bind (spec_l01Cells k a1 0) fun x3 =>
          spec_SteepSteps_l0 k
            (fun y4 =>
              some (y4, 0))
            a3 0 0 a1 a2 x3)

def impl_Lawn_has (k : Nat) (a1 : List Int) (a2 : List Int) : Option (Bool) :=
  cond (decide ((rd a2 0) ≥ 0))
    (cond (decide ((rd a2 0) < (rd a1 0)))
      (cond (decide ((rd a2 1) ≥ 0))
        (some (decide ((rd a2 1) < (rd a1 1))))
        (some false))
      (some false))
    (some false)

def impl_Lawn_kind (k : Nat) (a1 : List Int) (a2 : List Int) : Option (Int) :=
  cond ((decide (0 ≤ (rd a2 1))) && (decide ((rd a2 1) < 10)))
    (cond ((decide (0 ≤ (rd a2 0))) && (decide ((rd a2 0) < 10)))
      (some (IntKind.wrap .i64 (rd a1 ((2 + (rd a2 1).toNat * 10) + (rd a2 0).toNat * 1))))
      none)
    none

def impl_Lawn_is (k : Nat) (a1 : List Int) (a2 : List Int) (a3 : Int) : Option (Bool) :=
  Option.bind (impl_Lawn_has k a1 [(rd a2 0), (rd a2 1)]) fun x1 =>
    cond x1
      (Option.bind (impl_Lawn_kind k a1 [(rd a2 0), (rd a2 1)]) fun x2 =>
        some (x2 == a3))
      (some false)

def impl_Lawn_grass (k : Nat) (a1 : List Int) (a2 : List Int) : Option (Bool) :=
  Option.bind (impl_Lawn_is k a1 [(rd a2 0), (rd a2 1)] 0) fun x1 =>
    some x1

def impl_within (k : Nat) (a1 : Int) (a2 : Int) (a3 : Int) : Option (Bool) :=
  cond (decide (a2 ≤ a1))
    (some (decide (a1 ≤ a3)))
    (some false)

def impl_ValidLawn_s0 {R : Type} (k : Nat) (K1 : Bool → Option R) (K2 : Int → (List Int) → Option R) (rec : Int → Int → Int → (List Int) → Option R) (h1 : Int) (h2 : Int) (h3 : Int) (h4 : List Int) : Option R :=
  cond (decide (h3 < 10))
    (cond ((decide (0 ≤ h1)) && (decide (h1 < 10)))
      (cond ((decide (0 ≤ h3)) && (decide (h3 < 10)))
        (cond (decide ((rd h4 ((2 + h1.toNat * 10) + h3.toNat * 1)) > 3))
          (K1 false)
          (cond ((rd h4 ((2 + h1.toNat * 10) + h3.toNat * 1)) != 0)
            (Option.bind (impl_Lawn_has k h4 [h3, h1]) fun x1 =>
              cond (!x1)
                (K1 false)
                (rec h1 h2 (IntKind.wrap .i8 (h3 + 1)) h4))
            (rec h1 h2 (IntKind.wrap .i8 (h3 + 1)) h4)))
        none)
      none)
    (K2 h2 h4)

def impl_ValidLawn_l0 {R : Type} (k : Nat) (K1 : Bool → Option R) (K2 : Int → (List Int) → Option R) (h1 : Int) (h2 : Int) (h3 : Int) (h4 : List Int) : Option R :=
  loopF (fun (rec : Int × Int × Int × (List Int) → Option R) (p : Int × Int × Int × (List Int)) => impl_ValidLawn_s0 k K1 K2 (fun h1 h2 h3 h4 => rec (h1, h2, h3, h4)) p.1 p.2.1 p.2.2.1 p.2.2.2) k (h1, h2, h3, h4)

def impl_ValidLawn_s1 {R : Type} (k : Nat) (K1 : Bool → Option R) (K2 : Option R) (rec : Int → (List Int) → Option R) (h1 : Int) (h2 : List Int) : Option R :=
  cond (decide (h1 < 10))
    (impl_ValidLawn_l0 k
      (fun y1 =>
        K1 y1)
      (fun y2 y3 =>
        rec (IntKind.wrap .i8 (y2 + 1)) y3)
      h1 h1 0 h2)
    (K2)

def impl_ValidLawn_l1 {R : Type} (k : Nat) (K1 : Bool → Option R) (K2 : Option R) (h1 : Int) (h2 : List Int) : Option R :=
  loopF (fun (rec : Int × (List Int) → Option R) (p : Int × (List Int)) => impl_ValidLawn_s1 k K1 K2 (fun h1 h2 => rec (h1, h2)) p.1 p.2) k (h1, h2)

def impl_ValidLawn (k : Nat) (a1 : List Int) : Option (Bool) :=
  Option.bind (impl_within k (IntKind.wrap .i64 (rd a1 0)) 1 10) fun x1 =>
    cond (!x1)
      (some false)
      (Option.bind (impl_within k (IntKind.wrap .i64 (rd a1 1)) 1 10) fun x2 =>
        cond (!x2)
          (some false)
          (impl_ValidLawn_l1 k
            (fun y3 =>
              some y3)
            (some true)
            0 a1))

def impl_ValidLevels_s0 {R : Type} (k : Nat) (K1 : Bool → Option R) (K2 : Int → (List Int) → (List Int) → Option R) (rec : Int → Int → Int → (List Int) → (List Int) → Option R) (h1 : Int) (h2 : Int) (h3 : Int) (h4 : List Int) (h5 : List Int) : Option R :=
  cond (decide (h3 < 10))
    (cond ((decide (0 ≤ h1)) && (decide (h1 < 10)))
      (cond ((decide (0 ≤ h3)) && (decide (h3 < 10)))
        (cond (decide ((rd h5 ((0 + h1.toNat * 10) + h3.toNat * 1)) < (-9)))
          (K1 false)
          (cond (decide ((rd h5 ((0 + h1.toNat * 10) + h3.toNat * 1)) > 9))
            (K1 false)
            (cond ((rd h5 ((0 + h1.toNat * 10) + h3.toNat * 1)) != 0)
              (Option.bind (impl_Lawn_grass k h4 [h3, h1]) fun x1 =>
                cond (!x1)
                  (K1 false)
                  (rec h1 h2 (IntKind.wrap .i8 (h3 + 1)) h4 h5))
              (rec h1 h2 (IntKind.wrap .i8 (h3 + 1)) h4 h5))))
        none)
      none)
    (K2 h2 h4 h5)

def impl_ValidLevels_l0 {R : Type} (k : Nat) (K1 : Bool → Option R) (K2 : Int → (List Int) → (List Int) → Option R) (h1 : Int) (h2 : Int) (h3 : Int) (h4 : List Int) (h5 : List Int) : Option R :=
  loopF (fun (rec : Int × Int × Int × (List Int) × (List Int) → Option R) (p : Int × Int × Int × (List Int) × (List Int)) => impl_ValidLevels_s0 k K1 K2 (fun h1 h2 h3 h4 h5 => rec (h1, h2, h3, h4, h5)) p.1 p.2.1 p.2.2.1 p.2.2.2.1 p.2.2.2.2) k (h1, h2, h3, h4, h5)

def impl_ValidLevels_s1 {R : Type} (k : Nat) (K1 : Bool → Option R) (K2 : (List Int) → Option R) (rec : Int → (List Int) → (List Int) → Option R) (h1 : Int) (h2 : List Int) (h3 : List Int) : Option R :=
  cond (decide (h1 < 10))
    (impl_ValidLevels_l0 k
      (fun y1 =>
        K1 y1)
      (fun y2 y3 y4 =>
        rec (IntKind.wrap .i8 (y2 + 1)) y3 y4)
      h1 h1 0 h2 h3)
    (K2 h2)

def impl_ValidLevels_l1 {R : Type} (k : Nat) (K1 : Bool → Option R) (K2 : (List Int) → Option R) (h1 : Int) (h2 : List Int) (h3 : List Int) : Option R :=
  loopF (fun (rec : Int × (List Int) × (List Int) → Option R) (p : Int × (List Int) × (List Int)) => impl_ValidLevels_s1 k K1 K2 (fun h1 h2 h3 => rec (h1, h2, h3)) p.1 p.2.1 p.2.2) k (h1, h2, h3)

def impl_ValidLevels (k : Nat) (a1 : List Int) (a2 : List Int) : Option (Bool) :=
  impl_ValidLevels_l1 k
    (fun y1 =>
      some y1)
    (fun y2 =>
      Option.bind (impl_ValidLawn k y2) fun x3 =>
        some x3)
    0 a1 a2

def impl_cellsCode_1 (k : Nat) (a1 : List Int) (a2 : List Int) : Option (Bool) :=
  Option.bind (impl_Lawn_has k a2 [(rd a1 0), (rd a1 1)]) fun x1 =>
    some (!x1)

def slices_IndexFunc_impl_Cell_s0 {R : Type} (k : Nat) (K1 : Int → Option R) (K2 : Option R) (rec : (List Int) → (List Int → Option Bool) → Int → Int → Option R) (h1 : List Int) (h2 : List Int → Option Bool) (h3 : Int) (h4 : Int) : Option R :=
  cond (decide (h4 < h3))
    (cond ((decide (0 ≤ h4)) && (decide (h4 < ((cnt 2 h1) : Int))))
      (Option.bind (h2 [(rd h1 (h4.toNat * 2)), (rd h1 ((h4.toNat * 2) + 1))]) fun x1 =>
        cond x1
          (K1 h4)
          (rec h1 h2 h3 (IntKind.wrap .i64 (h4 + 1))))
      none)
    (K2)

def slices_IndexFunc_impl_Cell_l0 {R : Type} (k : Nat) (K1 : Int → Option R) (K2 : Option R) (h1 : List Int) (h2 : List Int → Option Bool) (h3 : Int) (h4 : Int) : Option R :=
  loopF (fun (rec : (List Int) × (List Int → Option Bool) × Int × Int → Option R) (p : (List Int) × (List Int → Option Bool) × Int × Int) => slices_IndexFunc_impl_Cell_s0 k K1 K2 (fun h1 h2 h3 h4 => rec (h1, h2, h3, h4)) p.1 p.2.1 p.2.2.1 p.2.2.2) k (h1, h2, h3, h4)

def slices_IndexFunc_impl_Cell (k : Nat) (a1 : List Int) (a2 : List Int → Option Bool) : Option (Int) :=
  slices_IndexFunc_impl_Cell_l0 k
    (fun y1 =>
      some y1)
    (some (-1))
    a1 a2 ((cnt 2 a1) : Int) 0

def slices_ContainsFunc_impl_Cell (k : Nat) (a1 : List Int) (a2 : List Int → Option Bool) : Option (Bool) :=
  Option.bind (slices_IndexFunc_impl_Cell k a1 a2) fun x1 =>
    some (decide (x1 ≥ 0))

def impl_cellsCode (k : Nat) (a1 : List Int) (a2 : List Int) : Option (Int) :=
  Option.bind (impl_ValidLawn k a1) fun x1 =>
    cond (!x1)
      (some 1)
      (Option.bind (slices_ContainsFunc_impl_Cell k a2 (fun z2 => (impl_cellsCode_1 k [(rd z2 0), (rd z2 1)] a1).bind fun b => some b)) fun x3 =>
        cond x3
          (some 2)
          (some 0))

def impl_soilCode (k : Nat) (a1 : List Int) (a2 : List Int) (a3 : List Int) : Option (Int) :=
  Option.bind (impl_ValidLevels k a1 a2) fun x1 =>
    cond (!x1)
      (some 1)
      (Option.bind (impl_cellsCode k a1 a3) fun x2 =>
        some x2)

def impl_Lawn_all_s0 {R : Type} (k : Nat) (K1 : Int → Int → (List Int) → (List Int) → Option R) (rec : Int → Int → Int → Int → Int → (List Int) → (List Int) → Option R) (h1 : Int) (h2 : Int) (h3 : Int) (h4 : Int) (h5 : Int) (h6 : List Int) (h7 : List Int) : Option R :=
  cond (decide (h5 < h4))
    (cond (decide (h7.length + 2 ≤ bigLen))
      (rec h1 h2 h3 h4 (IntKind.wrap .i8 (h5 + 1)) h6 (h7 ++ [h5, h1]))
      none)
    (K1 h2 h3 h6 h7)

def impl_Lawn_all_l0 {R : Type} (k : Nat) (K1 : Int → Int → (List Int) → (List Int) → Option R) (h1 : Int) (h2 : Int) (h3 : Int) (h4 : Int) (h5 : Int) (h6 : List Int) (h7 : List Int) : Option R :=
  loopF (fun (rec : Int × Int × Int × Int × Int × (List Int) × (List Int) → Option R) (p : Int × Int × Int × Int × Int × (List Int) × (List Int)) => impl_Lawn_all_s0 k K1 (fun h1 h2 h3 h4 h5 h6 h7 => rec (h1, h2, h3, h4, h5, h6, h7)) p.1 p.2.1 p.2.2.1 p.2.2.2.1 p.2.2.2.2.1 p.2.2.2.2.2.1 p.2.2.2.2.2.2) k (h1, h2, h3, h4, h5, h6, h7)

def impl_Lawn_all_s1 {R : Type} (k : Nat) (K1 : (List Int) → Option R) (rec : Int → Int → (List Int) → (List Int) → Option R) (h1 : Int) (h2 : Int) (h3 : List Int) (h4 : List Int) : Option R :=
  cond (decide (h2 < h1))
    (impl_Lawn_all_l0 k
      (fun y1 y2 y3 y4 =>
        rec y1 (IntKind.wrap .i8 (y2 + 1)) y3 y4)
      h2 h1 h2 (rd h3 0) 0 h3 h4)
    (K1 h4)

def impl_Lawn_all_l1 {R : Type} (k : Nat) (K1 : (List Int) → Option R) (h1 : Int) (h2 : Int) (h3 : List Int) (h4 : List Int) : Option R :=
  loopF (fun (rec : Int × Int × (List Int) × (List Int) → Option R) (p : Int × Int × (List Int) × (List Int)) => impl_Lawn_all_s1 k K1 (fun h1 h2 h3 h4 => rec (h1, h2, h3, h4)) p.1 p.2.1 p.2.2.1 p.2.2.2) k (h1, h2, h3, h4)

def impl_Lawn_all (k : Nat) (a1 : List Int) : Option ((List Int)) :=
  impl_Lawn_all_l1 k
    (fun y1 =>
      some y1)
    (rd a1 1) 0 a1 []

def impl_Lawn_those_1 (k : Nat) (a1 : List Int) (a2 : List Int → Option Bool) : Option (Bool) :=
  Option.bind (a2 [(rd a1 0), (rd a1 1)]) fun x1 =>
    some (!x1)

def slices_DeleteFunc_impl_Cell_s0 {R : Type} (k : Nat) (K1 : Int → (List Int) → Option R) (rec : (List Int → Option Bool) → Int → Int → (List Int) → Option R) (h1 : List Int → Option Bool) (h2 : Int) (h3 : Int) (h4 : List Int) : Option R :=
  cond (decide (h3 < ((cnt 2 h4) : Int)))
    (cond ((decide (0 ≤ h3)) && (decide (h3 < ((cnt 2 h4) : Int))))
      (Option.bind (h1 [(rd h4 (h3.toNat * 2)), (rd h4 ((h3.toNat * 2) + 1))]) fun x1 =>
        cond (!x1)
          (cond ((decide (0 ≤ h2)) && (decide (h2 < ((cnt 2 h4) : Int))))
            (rec h1 (IntKind.wrap .i64 (h2 + 1)) (IntKind.wrap .i64 (h3 + 1)) (setWin h4 (h2.toNat * 2) 2 [(rd h4 (h3.toNat * 2)), (rd h4 ((h3.toNat * 2) + 1))]))
            none)
          (rec h1 h2 (IntKind.wrap .i64 (h3 + 1)) h4))
      none)
    (K1 h2 h4)

def slices_DeleteFunc_impl_Cell_l0 {R : Type} (k : Nat) (K1 : Int → (List Int) → Option R) (h1 : List Int → Option Bool) (h2 : Int) (h3 : Int) (h4 : List Int) : Option R :=
  loopF (fun (rec : (List Int → Option Bool) × Int × Int × (List Int) → Option R) (p : (List Int → Option Bool) × Int × Int × (List Int)) => slices_DeleteFunc_impl_Cell_s0 k K1 (fun h1 h2 h3 h4 => rec (h1, h2, h3, h4)) p.1 p.2.1 p.2.2.1 p.2.2.2) k (h1, h2, h3, h4)

def slices_DeleteFunc_impl_Cell (k : Nat) (a1 : List Int) (a2 : List Int → Option Bool) : Option ((List Int)) :=
  Option.bind (slices_IndexFunc_impl_Cell k a1 a2) fun x1 =>
    cond (x1 == (-1))
      (some a1)
      (slices_DeleteFunc_impl_Cell_l0 k
        (fun y2 y3 =>
          cond ((decide (0 ≤ y2)) && (decide (y2 ≤ ((cnt 2 y3) : Int))))
            (cond ((decide (0 ≤ y2)) && (decide (y2 ≤ (((cnt 2 (setWin y3 (y2.toNat * 2) (((cnt 2 y3) - y2.toNat) * 2) (List.replicate (((cnt 2 y3) - y2.toNat) * 2) 0))) : Nat) : Int))))
              (some (win (setWin y3 (y2.toNat * 2) (((cnt 2 y3) - y2.toNat) * 2) (List.replicate (((cnt 2 y3) - y2.toNat) * 2) 0)) 0 (y2.toNat * 2)))
              none)
            none)
        a2 x1 (IntKind.wrap .i64 (x1 + 1)) a1)

def impl_Lawn_those (k : Nat) (a1 : List Int) (a2 : List Int → Option Bool) : Option ((List Int)) :=
  Option.bind (impl_Lawn_all k a1) fun x1 =>
    Option.bind (slices_DeleteFunc_impl_Cell k x1 (fun z2 => (impl_Lawn_those_1 k [(rd z2 0), (rd z2 1)] a2).bind fun b => some b)) fun x3 =>
      some x3

def impl_beside (k : Nat) (a1 : List Int) : Option ((List Int)) :=
  some [(rd a1 0), (IntKind.wrap .i8 ((rd a1 1) - 1)), (IntKind.wrap .i8 ((rd a1 0) - 1)), (rd a1 1), (IntKind.wrap .i8 ((rd a1 0) + 1)), (rd a1 1), (rd a1 0), (IntKind.wrap .i8 ((rd a1 1) + 1))]

def impl_Levels_of (k : Nat) (a1 : List Int) (a2 : List Int) : Option (Int) :=
  cond ((decide (0 ≤ (rd a2 1))) && (decide ((rd a2 1) < 10)))
    (cond ((decide (0 ≤ (rd a2 0))) && (decide ((rd a2 0) < 10)))
      (some (IntKind.wrap .i64 (rd a1 ((0 + (rd a2 1).toNat * 10) + (rd a2 0).toNat * 1))))
      none)
    none

def impl_SteepSteps_s0 {R : Type} (k : Nat) (K1 : Int → Int → Int → Int → (List Int) → (List Int) → (List Int) → Option R) (rec : Int → Int → Int → Int → Int → Int → (List Int) → (List Int) → (List Int) → (List Int) → (List Int) → Option R) (h1 : Int) (h2 : Int) (h3 : Int) (h4 : Int) (h5 : Int) (h6 : Int) (h7 : List Int) (h8 : List Int) (h9 : List Int) (h10 : List Int) (h11 : List Int) : Option R :=
  cond (decide (h6 < h5))
    (cond ((decide (0 ≤ h6)) && (decide (h6 < ((cnt 2 h11) : Int))))
      (Option.bind (impl_Lawn_grass k h7 [(rd h11 (h6.toNat * 2)), (rd h11 ((h6.toNat * 2) + 1))]) fun x1 =>
        cond x1
          (Option.bind (impl_Levels_of k h8 [(rd h9 0), (rd h9 1)]) fun x2 =>
            Option.bind (impl_Levels_of k h8 [(rd h11 (h6.toNat * 2)), (rd h11 ((h6.toNat * 2) + 1))]) fun x3 =>
              Option.bind (impl_Levels_of k h8 [(rd h11 (h6.toNat * 2)), (rd h11 ((h6.toNat * 2) + 1))]) fun x4 =>
                Option.bind (impl_Levels_of k h8 [(rd h9 0), (rd h9 1)]) fun x5 =>
                  cond (decide ((maxI (IntKind.wrap .i64 (x2 - x3)) (IntKind.wrap .i64 (x4 - x5))) > h1))
                    (rec h1 (IntKind.wrap .i64 (h2 + 1)) h3 h4 h5 (IntKind.wrap .i64 (h6 + 1)) h7 h8 h9 h10 h11)
                    (rec h1 h2 h3 h4 h5 (IntKind.wrap .i64 (h6 + 1)) h7 h8 h9 h10 h11))
          (rec h1 h2 h3 h4 h5 (IntKind.wrap .i64 (h6 + 1)) h7 h8 h9 h10 h11))
      none)
    (K1 h1 h2 h3 h4 h7 h8 h10)

def impl_SteepSteps_l0 {R : Type} (k : Nat) (K1 : Int → Int → Int → Int → (List Int) → (List Int) → (List Int) → Option R) (h1 : Int) (h2 : Int) (h3 : Int) (h4 : Int) (h5 : Int) (h6 : Int) (h7 : List Int) (h8 : List Int) (h9 : List Int) (h10 : List Int) (h11 : List Int) : Option R :=
  loopF (fun (rec : Int × Int × Int × Int × Int × Int × (List Int) × (List Int) × (List Int) × (List Int) × (List Int) → Option R) (p : Int × Int × Int × Int × Int × Int × (List Int) × (List Int) × (List Int) × (List Int) × (List Int)) => impl_SteepSteps_s0 k K1 (fun h1 h2 h3 h4 h5 h6 h7 h8 h9 h10 h11 => rec (h1, h2, h3, h4, h5, h6, h7, h8, h9, h10, h11)) p.1 p.2.1 p.2.2.1 p.2.2.2.1 p.2.2.2.2.1 p.2.2.2.2.2.1 p.2.2.2.2.2.2.1 p.2.2.2.2.2.2.2.1 p.2.2.2.2.2.2.2.2.1 p.2.2.2.2.2.2.2.2.2.1 p.2.2.2.2.2.2.2.2.2.2) k (h1, h2, h3, h4, h5, h6, h7, h8, h9, h10, h11)

def impl_SteepSteps_s1 {R : Type} (k : Nat) (K1 : Int → Option R) (rec : Int → Int → Int → Int → (List Int) → (List Int) → (List Int) → Option R) (h1 : Int) (h2 : Int) (h3 : Int) (h4 : Int) (h5 : List Int) (h6 : List Int) (h7 : List Int) : Option R :=
  cond (decide (h4 < h3))
    (cond ((decide (0 ≤ h4)) && (decide (h4 < ((cnt 2 h7) : Int))))
      (Option.bind (impl_beside k [(rd h7 (h4.toNat * 2)), (rd h7 ((h4.toNat * 2) + 1))]) fun x1 =>
        cond (decide (2 ≤ ((cnt 2 x1) : Int)))
          (impl_SteepSteps_l0 k
            (fun y2 y3 y4 y5 y6 y7 y8 =>
              rec y2 y3 y4 (IntKind.wrap .i64 (y5 + 1)) y6 y7 y8)
            h1 h2 h3 h4 ((((cnt 2 x1) - 2) : Nat) : Int) 0 h5 h6 [(rd h7 (h4.toNat * 2)), (rd h7 ((h4.toNat * 2) + 1))] h7 (win x1 4 (((cnt 2 x1) - 2) * 2)))
          none)
      none)
    (K1 h2)

def impl_SteepSteps_l1 {R : Type} (k : Nat) (K1 : Int → Option R) (h1 : Int) (h2 : Int) (h3 : Int) (h4 : Int) (h5 : List Int) (h6 : List Int) (h7 : List Int) : Option R :=
  loopF (fun (rec : Int × Int × Int × Int × (List Int) × (List Int) × (List Int) → Option R) (p : Int × Int × Int × Int × (List Int) × (List Int) × (List Int)) => impl_SteepSteps_s1 k K1 (fun h1 h2 h3 h4 h5 h6 h7 => rec (h1, h2, h3, h4, h5, h6, h7)) p.1 p.2.1 p.2.2.1 p.2.2.2.1 p.2.2.2.2.1 p.2.2.2.2.2.1 p.2.2.2.2.2.2) k (h1, h2, h3, h4, h5, h6, h7)

def impl_SteepSteps (k : Nat) (a1 : List Int) (a2 : List Int) (a3 : Int) : Option (Int × Int) :=
  Option.bind (impl_soilCode k a1 a2 []) fun x1 =>
    cond (x1 == 0)
      (Option.bind (impl_within k a3 0 18) fun x2 =>
        cond (!x2)
          (some (0, 2))
          (cond (x1 != 0)
            (some (0, x1))
            (Option.bind (impl_Lawn_those k a1 (fun z3 => (impl_Lawn_grass k a1 [(rd z3 0), (rd z3 1)]).bind fun b => some b)) fun x4 =>
              impl_SteepSteps_l1 k
                (fun y5 =>
                  some (y5, 0))
                a3 0 ((cnt 2 x4) : Int) 0 a1 a2 x4)))
      (cond (x1 != 0)
        (some (0, x1))
        (Option.bind (impl_Lawn_those k a1 (fun z6 => (impl_Lawn_grass k a1 [(rd z6 0), (rd z6 1)]).bind fun b => some b)) fun x7 =>
          impl_SteepSteps_l1 k
            (fun y8 =>
              some (y8, 0))
            a3 0 ((cnt 2 x7) : Int) 0 a1 a2 x7))

def laws_FnExactSteepSteps (k : Nat) (a1 : List Int) (a2 : List Int) (a3 : Int) : Option (Bool) :=
  Option.bind (laws_toLawn k a1) fun x1 =>
    Option.bind (laws_toLevels k a2) fun x2 =>
      Option.bind (spec_SteepSteps k x1 x2 a3) fun x3 =>
        Option.bind (laws_toLawn k a1) fun x4 =>
          Option.bind (laws_toLevels k a2) fun x5 =>
            Option.bind (impl_SteepSteps k x4 x5 a3) fun x6 =>
              cond (x6.1 != x3.1)
                (some false)
                (cond (x6.2 != x3.2)
                  (some false)
                  (some true))

def spec_HillsIn_s0 {R : Type} (k : Nat) (K1 : (List Int) → Option R) (rec : Int → Int → (List Int) → (List Int) → (List Int) → Option R) (h1 : Int) (h2 : Int) (h3 : List Int) (h4 : List Int) (h5 : List Int) : Option R :=
  cond (decide (h2 < ((cnt 2 h5) : Int)))
    (cond ((decide (0 ≤ h2)) && (decide (h2 < ((cnt 2 h5) : Int))))
      (Option.bind (spec_l06At k h3 [(rd h5 (h2.toNat * 2)), (rd h5 ((h2.toNat * 2) + 1))]) fun x1 =>
        cond (decide (x1 ≥ h1))
          (cond ((decide (0 ≤ h2)) && (decide (h2 < ((cnt 2 h5) : Int))))
            (cond (decide (h4.length + 2 ≤ bigLen))
              (rec h1 (IntKind.wrap .i64 (h2 + 1)) h3 (h4 ++ [(rd h5 (h2.toNat * 2)), (rd h5 ((h2.toNat * 2) + 1))]) h5)
              none)
            none)
          (rec h1 (IntKind.wrap .i64 (h2 + 1)) h3 h4 h5))
      none)
    (K1 h4)

def spec_HillsIn_l0 {R : Type} (k : Nat) (K1 : (List Int) → Option R) (h1 : Int) (h2 : Int) (h3 : List Int) (h4 : List Int) (h5 : List Int) : Option R :=
  loopF (fun (rec : Int × Int × (List Int) × (List Int) × (List Int) → Option R) (p : Int × Int × (List Int) × (List Int) × (List Int)) => spec_HillsIn_s0 k K1 (fun h1 h2 h3 h4 h5 => rec (h1, h2, h3, h4, h5)) p.1 p.2.1 p.2.2.1 p.2.2.2.1 p.2.2.2.2) k (h1, h2, h3, h4, h5)

def spec_HillsIn (k : Nat) (a1 : List Int) (a2 : List Int) (a3 : Int) : Option ((List Int) × Int) :=
  Option.bind (spec_l06Level k a3) fun x1 =>
    Option.bind (spec_l06Asked k a1 a2 x1) fun x2 =>
      cond (x2 != 0)
        (some ([], x2))
        (Option.bind (spec_l01Cells k a1 0) fun x3 =>
          spec_HillsIn_l0 k
            (fun y4 =>
              some (y4, 0))
            a3 0 a2 [] x3)

def impl_HillsIn_1 (k : Nat) (a1 : List Int) (a2 : List Int) (a3 : List Int) (a4 : List Int) : Option (Bool) :=
  Option.bind (impl_Lawn_grass k a2 [(rd a1 0), (rd a1 1)]) fun x1 =>
    cond x1
      (Option.bind (impl_Levels_of k a3 [(rd a1 0), (rd a1 1)]) fun x2 =>
        some (decide (x2 ≥ (rd a4 0))))
      (some false)

def impl_HillsIn (k : Nat) (a1 : List Int) (a2 : List Int) (a3 : Int) : Option ((List Int) × Int) :=
  Option.bind (impl_soilCode k a1 a2 []) fun x1 =>
    cond (x1 == 0)
      (Option.bind (impl_within k a3 (-9) 9) fun x2 =>
        cond (!x2)
          (some ([], 2))
          (cond (x1 != 0)
            (some ([], x1))
            (Option.bind (impl_Lawn_those k a1 (fun z3 => (impl_HillsIn_1 k [(rd z3 0), (rd z3 1)] a1 a2 [a3]).bind fun b => some b)) fun x4 =>
              some (x4, 0))))
      (cond (x1 != 0)
        (some ([], x1))
        (Option.bind (impl_Lawn_those k a1 (fun z5 => (impl_HillsIn_1 k [(rd z5 0), (rd z5 1)] a1 a2 [a3]).bind fun b => some b)) fun x6 =>
          some (x6, 0)))

def laws_eqCell (k : Nat) (a1 : List Int) (a2 : List Int) : Option (Bool) :=
  cond ((rd a1 0) != (rd a2 0))
    (some false)
    (cond ((rd a1 1) != (rd a2 1))
      (some false)
      (some true))

def laws_eqCellS_s0 {R : Type} (k : Nat) (K1 : Bool → Option R) (K2 : Option R) (rec : (List Int) → (List Int) → Int → Option R) (h1 : List Int) (h2 : List Int) (h3 : Int) : Option R :=
  cond (decide (h3 < ((cnt 2 h1) : Int)))
    (cond ((decide (0 ≤ h3)) && (decide (h3 < ((cnt 2 h1) : Int))))
      (cond ((decide (0 ≤ h3)) && (decide (h3 < ((cnt 2 h2) : Int))))
        (Option.bind (laws_eqCell k [(rd h1 (h3.toNat * 2)), (rd h1 ((h3.toNat * 2) + 1))] [(rd h2 (h3.toNat * 2)), (rd h2 ((h3.toNat * 2) + 1))]) fun x1 =>
          cond (!x1)
            (K1 false)
            (rec h1 h2 (IntKind.wrap .i64 (h3 + 1))))
        none)
      none)
    (K2)

def laws_eqCellS_l0 {R : Type} (k : Nat) (K1 : Bool → Option R) (K2 : Option R) (h1 : List Int) (h2 : List Int) (h3 : Int) : Option R :=
  loopF (fun (rec : (List Int) × (List Int) × Int → Option R) (p : (List Int) × (List Int) × Int) => laws_eqCellS_s0 k K1 K2 (fun h1 h2 h3 => rec (h1, h2, h3)) p.1 p.2.1 p.2.2) k (h1, h2, h3)

def laws_eqCellS (k : Nat) (a1 : List Int) (a2 : List Int) : Option (Bool) :=
  cond (((cnt 2 a1) : Int) != ((cnt 2 a2) : Int))
    (some false)
    (laws_eqCellS_l0 k
      (fun y1 =>
        some y1)
      (some true)
      a1 a2 0)

def laws_markCellS_s0 {R : Type} (k : Nat) (K1 : Int → (List Int) → Option R) (rec : Int → Int → (List Int) → Option R) (h1 : Int) (h2 : Int) (h3 : List Int) : Option R :=
  cond (decide (h2 < ((cnt 2 h3) : Int)))
    (cond ((decide (0 ≤ h2)) && (decide (h2 < ((cnt 2 h3) : Int))))
      (cond ((decide (0 ≤ h2)) && (decide (h2 < (((cnt 2 (List.set h3 (h2.toNat * 2) (IntKind.wrap .i8 h1))) : Nat) : Int))))
        (rec (IntKind.wrap .i64 ((IntKind.wrap .i64 (h1 + 1)) + 1)) (IntKind.wrap .i64 (h2 + 1)) (List.set (List.set h3 (h2.toNat * 2) (IntKind.wrap .i8 h1)) ((h2.toNat * 2) + 1) (IntKind.wrap .i8 (IntKind.wrap .i64 (h1 + 1)))))
        none)
      none)
    (K1 h1 h3)

def laws_markCellS_l0 {R : Type} (k : Nat) (K1 : Int → (List Int) → Option R) (h1 : Int) (h2 : Int) (h3 : List Int) : Option R :=
  loopF (fun (rec : Int × Int × (List Int) → Option R) (p : Int × Int × (List Int)) => laws_markCellS_s0 k K1 (fun h1 h2 h3 => rec (h1, h2, h3)) p.1 p.2.1 p.2.2) k (h1, h2, h3)

def laws_markCellS (k : Nat) (a1 : List Int) (a2 : Int) : Option ((Int) × List Int) :=
  laws_markCellS_l0 k
    (fun y1 y2 =>
      some (y1, y2))
    a2 0 a1

def laws_heldCellS_s0 {R : Type} (k : Nat) (K1 : Int → Option R) (K2 : Int → Option R) (rec : (List Int) → Int → Int → Option R) (h1 : List Int) (h2 : Int) (h3 : Int) : Option R :=
  cond (decide (h3 < ((cnt 2 h1) : Int)))
    (cond ((decide (0 ≤ h3)) && (decide (h3 < ((cnt 2 h1) : Int))))
      (cond ((rd h1 (h3.toNat * 2)) != (IntKind.wrap .i8 h2))
        (K1 (-1))
        (cond ((decide (0 ≤ h3)) && (decide (h3 < ((cnt 2 h1) : Int))))
          (cond ((rd h1 ((h3.toNat * 2) + 1)) != (IntKind.wrap .i8 (IntKind.wrap .i64 (h2 + 1))))
            (K1 (-1))
            (rec h1 (IntKind.wrap .i64 ((IntKind.wrap .i64 (h2 + 1)) + 1)) (IntKind.wrap .i64 (h3 + 1))))
          none))
      none)
    (K2 h2)

def laws_heldCellS_l0 {R : Type} (k : Nat) (K1 : Int → Option R) (K2 : Int → Option R) (h1 : List Int) (h2 : Int) (h3 : Int) : Option R :=
  loopF (fun (rec : (List Int) × Int × Int → Option R) (p : (List Int) × Int × Int) => laws_heldCellS_s0 k K1 K2 (fun h1 h2 h3 => rec (h1, h2, h3)) p.1 p.2.1 p.2.2) k (h1, h2, h3)

def laws_heldCellS (k : Nat) (a1 : List Int) (a2 : Int) : Option (Int) :=
  laws_heldCellS_l0 k
    (fun y1 =>
      some y1)
    (fun y2 =>
      some y2)
    a1 a2 0

def laws_FnExactHillsIn (k : Nat) (a1 : List Int) (a2 : List Int) (a3 : Int) : Option (Bool) :=
  Option.bind (laws_toLawn k a1) fun x1 =>
    Option.bind (laws_toLevels k a2) fun x2 =>
      Option.bind (spec_HillsIn k x1 x2 a3) fun x3 =>
        Option.bind (laws_toLawn k a1) fun x4 =>
          Option.bind (laws_toLevels k a2) fun x5 =>
            Option.bind (impl_HillsIn k x4 x5 a3) fun x6 =>
              Option.bind (laws_eqCellS k x6.1 x3.1) fun x7 =>
                cond (!x7)
                  (some false)
                  (cond (x6.2 != x3.2)
                    (some false)
                    (Option.bind (laws_markCellS k x6.1 1) fun x8 =>
                      Option.bind (laws_heldCellS k x8.2 1) fun x9 =>
                        cond (decide (x9 < 0))
                          (some false)
                          (cond (x9 != x8.1)
                            (some false)
                            (Option.bind (laws_toLawn k a1) fun x10 =>
                              Option.bind (laws_toLevels k a2) fun x11 =>
                                Option.bind (impl_HillsIn k x10 x11 a3) fun x12 =>
                                  Option.bind (laws_eqCellS k x12.1 x3.1) fun x13 =>
                                    cond (!x13)
                                      (some false)
                                      (cond (x12.2 != x3.2)
                                        (some false)
                                        (Option.bind (laws_heldCellS k x8.2 1) fun x14 =>
                                          cond (decide (x14 < 0))
                                            (some false)
                                            (cond (x14 != x8.1)
                                              (some false)
                                              (some true))))))))

def laws_szCellS (k : Nat) (a1 : List Int) (a2 : Int) : Option (Int) :=
  cond (decide ((IntKind.wrap .i64 (a2 - ((cnt 2 a1) : Int))) < 0))
    (some (-1))
    (some (IntKind.wrap .i64 (a2 - ((cnt 2 a1) : Int))))

def laws_toCell (k : Nat) (a1 : List Int) : Option ((List Int)) :=
  some [(rd a1 0), (rd a1 1)]

def laws_toCellS_s0 {R : Type} (k : Nat) (K1 : (List Int) → Option R) (rec : (List Int) → Int → (List Int) → Option R) (h1 : List Int) (h2 : Int) (h3 : List Int) : Option R :=
  cond (decide (h2 < ((cnt 2 h1) : Int)))
    (cond ((decide (0 ≤ h2)) && (decide (h2 < ((cnt 2 h1) : Int))))
      (Option.bind (laws_toCell k [(rd h1 (h2.toNat * 2)), (rd h1 ((h2.toNat * 2) + 1))]) fun x1 =>
        cond ((decide (0 ≤ h2)) && (decide (h2 < ((cnt 2 h3) : Int))))
          (rec h1 (IntKind.wrap .i64 (h2 + 1)) (setWin h3 (h2.toNat * 2) 2 x1))
          none)
      none)
    (K1 h3)

def laws_toCellS_l0 {R : Type} (k : Nat) (K1 : (List Int) → Option R) (h1 : List Int) (h2 : Int) (h3 : List Int) : Option R :=
  loopF (fun (rec : (List Int) × Int × (List Int) → Option R) (p : (List Int) × Int × (List Int)) => laws_toCellS_s0 k K1 (fun h1 h2 h3 => rec (h1, h2, h3)) p.1 p.2.1 p.2.2) k (h1, h2, h3)

def laws_toCellS (k : Nat) (a1 : List Int) : Option ((List Int)) :=
  cond ((decide (0 ≤ ((cnt 2 a1) : Int))) && ((decide (((cnt 2 a1) : Int) ≤ 4294967296)) && (((cnt 2 a1) : Int) == ((cnt 2 a1) : Int))))
    (laws_toCellS_l0 k
      (fun y1 =>
        some y1)
      a1 0 (List.replicate (((cnt 2 a1) : Int).toNat * 2) 0))
    none

def spec_l01Open (k : Nat) (a1 : List Int) (a2 : List Int) : Option (Bool) :=
  Option.bind (spec_l01At k a1 [(rd a2 0), (rd a2 1)]) fun x1 =>
    cond (x1 == 0)
      (some true)
      (Option.bind (spec_l01At k a1 [(rd a2 0), (rd a2 1)]) fun x2 =>
        some (x2 == 3))

def spec_l04Open (k : Nat) (a1 : List Int) (a2 : List Int) : Option (Bool) :=
  Option.bind (spec_l01Is k a1 [(rd a2 0), (rd a2 1)]) fun x1 =>
    cond x1
      (Option.bind (spec_l01Open k a1 [(rd a2 0), (rd a2 1)]) fun x2 =>
        some x2)
      (some false)

def spec_l04Beside (k : Nat) (a1 : List Int) (a2 : List Int) : Option (Bool) :=
  some (decide ((IntKind.wrap .i64 ((IntKind.wrap .i64 ((IntKind.wrap .i64 ((IntKind.wrap .i64 (rd a1 0)) - (IntKind.wrap .i64 (rd a2 0)))) * (IntKind.wrap .i64 ((IntKind.wrap .i64 (rd a1 0)) - (IntKind.wrap .i64 (rd a2 0)))))) + (IntKind.wrap .i64 ((IntKind.wrap .i64 ((IntKind.wrap .i64 (rd a1 1)) - (IntKind.wrap .i64 (rd a2 1)))) * (IntKind.wrap .i64 ((IntKind.wrap .i64 (rd a1 1)) - (IntKind.wrap .i64 (rd a2 1)))))))) ≤ 1))

def spec_l04Right_s0 {R : Type} (k : Nat) (K1 : Bool → Option R) (K2 : (List Int) → Option R) (rec : (List Int) → (List Int) → Int → Option R) (h1 : List Int) (h2 : List Int) (h3 : Int) : Option R :=
  cond (decide (h3 < ((cnt 2 h2) : Int)))
    (cond ((decide (0 ≤ h3)) && (decide (h3 < ((cnt 2 h2) : Int))))
      (Option.bind (spec_l04Open k h1 [(rd h2 (h3.toNat * 2)), (rd h2 ((h3.toNat * 2) + 1))]) fun x1 =>
        cond (!x1)
          (K1 false)
          (cond (decide (h3 > 0))
            (cond ((decide (0 ≤ (IntKind.wrap .i64 (h3 - 1)))) && (decide ((IntKind.wrap .i64 (h3 - 1)) < ((cnt 2 h2) : Int))))
              (cond ((decide (0 ≤ h3)) && (decide (h3 < ((cnt 2 h2) : Int))))
                (Option.bind (spec_l04Beside k [(rd h2 ((IntKind.wrap .i64 (h3 - 1)).toNat * 2)), (rd h2 (((IntKind.wrap .i64 (h3 - 1)).toNat * 2) + 1))] [(rd h2 (h3.toNat * 2)), (rd h2 ((h3.toNat * 2) + 1))]) fun x2 =>
                  cond (!x2)
                    (K1 false)
                    (rec h1 h2 (IntKind.wrap .i64 (h3 + 1))))
                none)
              none)
            (rec h1 h2 (IntKind.wrap .i64 (h3 + 1)))))
      none)
    (K2 h2)

def spec_l04Right_l0 {R : Type} (k : Nat) (K1 : Bool → Option R) (K2 : (List Int) → Option R) (h1 : List Int) (h2 : List Int) (h3 : Int) : Option R :=
  loopF (fun (rec : (List Int) × (List Int) × Int → Option R) (p : (List Int) × (List Int) × Int) => spec_l04Right_s0 k K1 K2 (fun h1 h2 h3 => rec (h1, h2, h3)) p.1 p.2.1 p.2.2) k (h1, h2, h3)

def spec_l04Right (k : Nat) (a1 : List Int) (a2 : List Int) : Option (Bool) :=
  spec_l04Right_l0 k
    (fun y1 =>
      some y1)
    (fun y2 =>
      some (decide (((cnt 2 y2) : Int) > 0)))
    a1 a2 0

def spec_l04Walked (k : Nat) (a1 : List Int) (a2 : List Int) : Option (Int) :=
  Option.bind (spec_l01Ok k a1) fun x1 =>
    cond (!x1)
      (some 1)
      (cond (decide (((cnt 2 a2) : Int) > 201))
        (some 3)
        (Option.bind (spec_l04Right k a1 a2) fun x2 =>
          cond (!x2)
            (some 4)
            (some 0)))

def spec_l04Times_s0 {R : Type} (k : Nat) (K1 : (List Int) → Int → Int → Int → (List Int) → (List Int) → Option R) (rec : (List Int) → Int → Int → Int → Int → (List Int) → (List Int) → Option R) (h1 : List Int) (h2 : Int) (h3 : Int) (h4 : Int) (h5 : Int) (h6 : List Int) (h7 : List Int) : Option R :=
  cond (decide (h5 < ((cnt 2 h1) : Int)))
    (cond ((decide (0 ≤ h5)) && (decide (h5 < ((cnt 2 h1) : Int))))
      (cond ((decide (0 ≤ h3)) && (decide (h3 < ((cnt 2 h7) : Int))))
        (cond (eqL [(rd h1 (h5.toNat * 2)), (rd h1 ((h5.toNat * 2) + 1))] [(rd h7 (h3.toNat * 2)), (rd h7 ((h3.toNat * 2) + 1))])
          (rec h1 h2 h3 (IntKind.wrap .i64 (h4 + 1)) (IntKind.wrap .i64 (h5 + 1)) h6 h7)
          (rec h1 h2 h3 h4 (IntKind.wrap .i64 (h5 + 1)) h6 h7))
        none)
      none)
    (K1 h1 h2 h3 h4 h6 h7)

def spec_l04Times_l0 {R : Type} (k : Nat) (K1 : (List Int) → Int → Int → Int → (List Int) → (List Int) → Option R) (h1 : List Int) (h2 : Int) (h3 : Int) (h4 : Int) (h5 : Int) (h6 : List Int) (h7 : List Int) : Option R :=
  loopF (fun (rec : (List Int) × Int × Int × Int × Int × (List Int) × (List Int) → Option R) (p : (List Int) × Int × Int × Int × Int × (List Int) × (List Int)) => spec_l04Times_s0 k K1 (fun h1 h2 h3 h4 h5 h6 h7 => rec (h1, h2, h3, h4, h5, h6, h7)) p.1 p.2.1 p.2.2.1 p.2.2.2.1 p.2.2.2.2.1 p.2.2.2.2.2.1 p.2.2.2.2.2.2) k (h1, h2, h3, h4, h5, h6, h7)

def spec_l04Times_s1 {R : Type} (k : Nat) (K1 : (List Int) → Option R) (rec : (List Int) → Int → Int → (List Int) → (List Int) → Option R) (h1 : List Int) (h2 : Int) (h3 : Int) (h4 : List Int) (h5 : List Int) : Option R :=
  cond (decide (h3 < ((cnt 2 h5) : Int)))
    (spec_l04Times_l0 k
      (fun y1 y2 y3 y4 y5 y6 =>
        cond (decide (y4 ≥ y2))
          (cond ((decide (0 ≤ y3)) && (decide (y3 < ((cnt 2 y6) : Int))))
            (cond (decide (y5.length + 2 ≤ bigLen))
              (rec y1 y2 (IntKind.wrap .i64 (y3 + 1)) (y5 ++ [(rd y6 (y3.toNat * 2)), (rd y6 ((y3.toNat * 2) + 1))]) y6)
              none)
            none)
          (rec y1 y2 (IntKind.wrap .i64 (y3 + 1)) y5 y6))
      h1 h2 h3 0 0 h4 h5)
    (K1 h4)

def spec_l04Times_l1 {R : Type} (k : Nat) (K1 : (List Int) → Option R) (h1 : List Int) (h2 : Int) (h3 : Int) (h4 : List Int) (h5 : List Int) : Option R :=
  loopF (fun (rec : (List Int) × Int × Int × (List Int) × (List Int) → Option R) (p : (List Int) × Int × Int × (List Int) × (List Int)) => spec_l04Times_s1 k K1 (fun h1 h2 h3 h4 h5 => rec (h1, h2, h3, h4, h5)) p.1 p.2.1 p.2.2.1 p.2.2.2.1 p.2.2.2.2) k (h1, h2, h3, h4, h5)

def spec_l04Times (k : Nat) (a1 : List Int) (a2 : List Int) (a3 : Int) : Option ((List Int)) :=
  Option.bind (spec_l01Cells k a1 0) fun x1 =>
    spec_l04Times_l1 k
      (fun y2 =>
        some y2)
      a2 a3 0 [] x1

def spec_CoveredBy (k : Nat) (a1 : List Int) (a2 : List Int) : Option ((List Int) × Int) :=
  Option.bind (spec_l04Walked k a1 a2) fun x1 =>
    cond (x1 != 0)
      (some ([], x1))
      (Option.bind (spec_l04Times k a1 a2 1) fun x2 =>
        some (x2, 0))

def impl_walkCode_1 (k : Nat) (a1 : List Int) : Option (Bool) :=
  some (decide (((cnt 2 a1) : Int) > 201))

def slices_IndexFunc_S_impl_Cell_s0 {R : Type} (k : Nat) (K1 : Int → Option R) (K2 : Option R) (rec : (List (List Int)) → (List Int → Option Bool) → Int → Int → Option R) (h1 : List (List Int)) (h2 : List Int → Option Bool) (h3 : Int) (h4 : Int) : Option R :=
  cond (decide (h4 < h3))
    (cond ((decide (0 ≤ h4)) && (decide (h4 < (h1.length : Int))))
      (Option.bind (h2 (rdr h1 h4.toNat)) fun x1 =>
        cond x1
          (K1 h4)
          (rec h1 h2 h3 (IntKind.wrap .i64 (h4 + 1))))
      none)
    (K2)

def slices_IndexFunc_S_impl_Cell_l0 {R : Type} (k : Nat) (K1 : Int → Option R) (K2 : Option R) (h1 : List (List Int)) (h2 : List Int → Option Bool) (h3 : Int) (h4 : Int) : Option R :=
  loopF (fun (rec : (List (List Int)) × (List Int → Option Bool) × Int × Int → Option R) (p : (List (List Int)) × (List Int → Option Bool) × Int × Int) => slices_IndexFunc_S_impl_Cell_s0 k K1 K2 (fun h1 h2 h3 h4 => rec (h1, h2, h3, h4)) p.1 p.2.1 p.2.2.1 p.2.2.2) k (h1, h2, h3, h4)

def slices_IndexFunc_S_impl_Cell (k : Nat) (a1 : List (List Int)) (a2 : List Int → Option Bool) : Option (Int) :=
  slices_IndexFunc_S_impl_Cell_l0 k
    (fun y1 =>
      some y1)
    (some (-1))
    a1 a2 (a1.length : Int) 0

def slices_ContainsFunc_S_impl_Cell (k : Nat) (a1 : List (List Int)) (a2 : List Int → Option Bool) : Option (Bool) :=
  Option.bind (slices_IndexFunc_S_impl_Cell k a1 a2) fun x1 =>
    some (decide (x1 ≥ 0))

def impl_Lawn_open (k : Nat) (a1 : List Int) (a2 : List Int) : Option (Bool) :=
  Option.bind (impl_Lawn_is k a1 [(rd a2 0), (rd a2 1)] 0) fun x1 =>
    cond x1
      (some true)
      (Option.bind (impl_Lawn_is k a1 [(rd a2 0), (rd a2 1)] 3) fun x2 =>
        some x2)

def slices_Index_impl_Cell_s0 {R : Type} (k : Nat) (K1 : Int → Option R) (K2 : Option R) (rec : (List Int) → Int → Int → (List Int) → Option R) (h1 : List Int) (h2 : Int) (h3 : Int) (h4 : List Int) : Option R :=
  cond (decide (h3 < h2))
    (cond ((decide (0 ≤ h3)) && (decide (h3 < ((cnt 2 h1) : Int))))
      (cond (eqL [(rd h4 0), (rd h4 1)] [(rd h1 (h3.toNat * 2)), (rd h1 ((h3.toNat * 2) + 1))])
        (K1 h3)
        (rec h1 h2 (IntKind.wrap .i64 (h3 + 1)) h4))
      none)
    (K2)

def slices_Index_impl_Cell_l0 {R : Type} (k : Nat) (K1 : Int → Option R) (K2 : Option R) (h1 : List Int) (h2 : Int) (h3 : Int) (h4 : List Int) : Option R :=
  loopF (fun (rec : (List Int) × Int × Int × (List Int) → Option R) (p : (List Int) × Int × Int × (List Int)) => slices_Index_impl_Cell_s0 k K1 K2 (fun h1 h2 h3 h4 => rec (h1, h2, h3, h4)) p.1 p.2.1 p.2.2.1 p.2.2.2) k (h1, h2, h3, h4)

def slices_Index_impl_Cell (k : Nat) (a1 : List Int) (a2 : List Int) : Option (Int) :=
  slices_Index_impl_Cell_l0 k
    (fun y1 =>
      some y1)
    (some (-1))
    a1 ((cnt 2 a1) : Int) 0 a2

def slices_Contains_impl_Cell (k : Nat) (a1 : List Int) (a2 : List Int) : Option (Bool) :=
  Option.bind (slices_Index_impl_Cell k a1 [(rd a2 0), (rd a2 1)]) fun x1 =>
    some (decide (x1 ≥ 0))

def impl_Lawn_isWalk_s0 {R : Type} (k : Nat) (K1 : Bool → Option R) (K2 : (List Int) → Option R) (rec : (List Int) → (List Int) → Int → Int → (List Int) → Option R) (h1 : List Int) (h2 : List Int) (h3 : Int) (h4 : Int) (h5 : List Int) : Option R :=
  cond (decide (h4 < h3))
    (cond ((decide (0 ≤ h4)) && (decide (h4 < ((cnt 2 h2) : Int))))
      (Option.bind (impl_Lawn_open k h5 [(rd h2 (h4.toNat * 2)), (rd h2 ((h4.toNat * 2) + 1))]) fun x1 =>
        cond (!x1)
          (K1 false)
          (cond (decide (h4 > 0))
            (cond ((decide (0 ≤ (IntKind.wrap .i64 (h4 - 1)))) && (decide ((IntKind.wrap .i64 (h4 - 1)) < ((cnt 2 h1) : Int))))
              (cond (!(eqL [(rd h2 (h4.toNat * 2)), (rd h2 ((h4.toNat * 2) + 1))] [(rd h1 ((IntKind.wrap .i64 (h4 - 1)).toNat * 2)), (rd h1 (((IntKind.wrap .i64 (h4 - 1)).toNat * 2) + 1))]))
                (Option.bind (impl_beside k [(rd h2 (h4.toNat * 2)), (rd h2 ((h4.toNat * 2) + 1))]) fun x2 =>
                  cond ((decide (0 ≤ (IntKind.wrap .i64 (h4 - 1)))) && (decide ((IntKind.wrap .i64 (h4 - 1)) < ((cnt 2 h1) : Int))))
                    (Option.bind (slices_Contains_impl_Cell k x2 [(rd h1 ((IntKind.wrap .i64 (h4 - 1)).toNat * 2)), (rd h1 (((IntKind.wrap .i64 (h4 - 1)).toNat * 2) + 1))]) fun x3 =>
                      cond (!x3)
                        (K1 false)
                        (rec h1 h2 h3 (IntKind.wrap .i64 (h4 + 1)) h5))
                    none)
                (rec h1 h2 h3 (IntKind.wrap .i64 (h4 + 1)) h5))
              none)
            (rec h1 h2 h3 (IntKind.wrap .i64 (h4 + 1)) h5)))
      none)
    (K2 h1)

def impl_Lawn_isWalk_l0 {R : Type} (k : Nat) (K1 : Bool → Option R) (K2 : (List Int) → Option R) (h1 : List Int) (h2 : List Int) (h3 : Int) (h4 : Int) (h5 : List Int) : Option R :=
  loopF (fun (rec : (List Int) × (List Int) × Int × Int × (List Int) → Option R) (p : (List Int) × (List Int) × Int × Int × (List Int)) => impl_Lawn_isWalk_s0 k K1 K2 (fun h1 h2 h3 h4 h5 => rec (h1, h2, h3, h4, h5)) p.1 p.2.1 p.2.2.1 p.2.2.2.1 p.2.2.2.2) k (h1, h2, h3, h4, h5)

def impl_Lawn_isWalk (k : Nat) (a1 : List Int) (a2 : List Int) : Option (Bool) :=
  impl_Lawn_isWalk_l0 k
    (fun y1 =>
      some y1)
    (fun y2 =>
      some (decide (((cnt 2 y2) : Int) > 0)))
    a2 a2 ((cnt 2 a2) : Int) 0 a1

def impl_walkCode_2 (k : Nat) (a1 : List Int) (a2 : List Int) : Option (Bool) :=
  Option.bind (impl_Lawn_isWalk k a2 a1) fun x1 =>
    some (!x1)

def impl_walkCode (k : Nat) (a1 : List Int) (a2 : List (List Int)) : Option (Int) :=
  Option.bind (impl_ValidLawn k a1) fun x1 =>
    cond (!x1)
      (some 1)
      (Option.bind (slices_ContainsFunc_S_impl_Cell k a2 (fun z2 => (impl_walkCode_1 k z2).bind fun b => some b)) fun x3 =>
        cond x3
          (some 3)
          (Option.bind (slices_ContainsFunc_S_impl_Cell k a2 (fun z4 => (impl_walkCode_2 k z4 a1).bind fun b => some b)) fun x5 =>
            cond x5
              (some 4)
              (some 0)))

def impl_times_s0 {R : Type} (k : Nat) (K1 : Int → Option R) (rec : Int → (List Int) → Int → Int → (List Int) → Option R) (h1 : Int) (h2 : List Int) (h3 : Int) (h4 : Int) (h5 : List Int) : Option R :=
  cond (decide (h4 < h3))
    (cond ((decide (0 ≤ h4)) && (decide (h4 < ((cnt 2 h2) : Int))))
      (cond (eqL [(rd h2 (h4.toNat * 2)), (rd h2 ((h4.toNat * 2) + 1))] [(rd h5 0), (rd h5 1)])
        (rec (IntKind.wrap .i64 (h1 + 1)) h2 h3 (IntKind.wrap .i64 (h4 + 1)) h5)
        (rec h1 h2 h3 (IntKind.wrap .i64 (h4 + 1)) h5))
      none)
    (K1 h1)

def impl_times_l0 {R : Type} (k : Nat) (K1 : Int → Option R) (h1 : Int) (h2 : List Int) (h3 : Int) (h4 : Int) (h5 : List Int) : Option R :=
  loopF (fun (rec : Int × (List Int) × Int × Int × (List Int) → Option R) (p : Int × (List Int) × Int × Int × (List Int)) => impl_times_s0 k K1 (fun h1 h2 h3 h4 h5 => rec (h1, h2, h3, h4, h5)) p.1 p.2.1 p.2.2.1 p.2.2.2.1 p.2.2.2.2) k (h1, h2, h3, h4, h5)

def impl_times (k : Nat) (a1 : List Int) (a2 : List Int) : Option (Int) :=
  impl_times_l0 k
    (fun y1 =>
      some y1)
    0 a1 ((cnt 2 a1) : Int) 0 a2

def impl_CoveredBy_1 (k : Nat) (a1 : List Int) (a2 : List Int) (a3 : List Int) : Option (Bool) :=
  Option.bind (impl_Lawn_grass k a2 [(rd a1 0), (rd a1 1)]) fun x1 =>
    cond x1
      (Option.bind (impl_times k a3 [(rd a1 0), (rd a1 1)]) fun x2 =>
        some (decide (x2 > 0)))
      (some false)

def impl_CoveredBy (k : Nat) (a1 : List Int) (a2 : List Int) : Option ((List Int) × Int) :=
  Option.bind (impl_walkCode k a1 [a2]) fun x1 =>
    cond (x1 != 0)
      (some ([], x1))
      (Option.bind (impl_Lawn_those k a1 (fun z2 => (impl_CoveredBy_1 k [(rd z2 0), (rd z2 1)] a1 a2).bind fun b => some b)) fun x3 =>
        some (x3, 0))

def laws_FnExactCoveredBy (k : Nat) (a1 : List Int) (a2 : List Int) : Option (Bool) :=
  Option.bind (laws_szCellS k a2 1048576) fun x1 =>
    cond (decide (x1 < 0))
      (some true)
      (Option.bind (laws_toLawn k a1) fun x2 =>
        Option.bind (laws_toCellS k a2) fun x3 =>
          Option.bind (spec_CoveredBy k x2 x3) fun x4 =>
            Option.bind (laws_toCellS k a2) fun x5 =>
              Option.bind (laws_toLawn k a1) fun x6 =>
                Option.bind (impl_CoveredBy k x6 x5) fun x7 =>
                  Option.bind (laws_eqCellS k x7.1 x4.1) fun x8 =>
                    cond (!x8)
                      (some false)
                      (cond (x7.2 != x4.2)
                        (some false)
                        (Option.bind (laws_toCellS k a2) fun x9 =>
                          Option.bind (laws_eqCellS k x5 x9) fun x10 =>
                            cond (!x10)
                              (some false)
                              (Option.bind (laws_markCellS k x5 1) fun x11 =>
                                cond (decide (x11.1 < 0))
                                  (some false)
                                  (Option.bind (laws_eqCellS k x7.1 x4.1) fun x12 =>
                                    cond (!x12)
                                      (some false)
                                      (cond (x7.2 != x4.2)
                                        (some false)
                                        (Option.bind (laws_markCellS k x7.1 1) fun x13 =>
                                          Option.bind (laws_heldCellS k x13.2 1) fun x14 =>
                                            cond (decide (x14 < 0))
                                              (some false)
                                              (cond (x14 != x13.1)
                                                (some false)
                                                (Option.bind (laws_toLawn k a1) fun x15 =>
                                                  Option.bind (laws_toCellS k a2) fun x16 =>
                                                    Option.bind (impl_CoveredBy k x15 x16) fun x17 =>
                                                      Option.bind (laws_eqCellS k x17.1 x4.1) fun x18 =>
                                                        cond (!x18)
                                                          (some false)
                                                          (cond (x17.2 != x4.2)
                                                            (some false)
                                                            (Option.bind (laws_heldCellS k x13.2 1) fun x19 =>
                                                              cond (decide (x19 < 0))
                                                                (some false)
                                                                (cond (x19 != x13.1)
                                                                  (some false)
                                                                  (some true)))))))))))))

def spec_CoveredTwice (k : Nat) (a1 : List Int) (a2 : List Int) : Option ((List Int) × Int) :=
  Option.bind (spec_l04Walked k a1 a2) fun x1 =>
    cond (x1 != 0)
      (some ([], x1))
      (Option.bind (spec_l04Times k a1 a2 2) fun x2 =>
        some (x2, 0))

def impl_CoveredTwice_1 (k : Nat) (a1 : List Int) (a2 : List Int) (a3 : List Int) : Option (Bool) :=
  Option.bind (impl_Lawn_grass k a2 [(rd a1 0), (rd a1 1)]) fun x1 =>
    cond x1
      (Option.bind (impl_times k a3 [(rd a1 0), (rd a1 1)]) fun x2 =>
        some (decide (x2 > 1)))
      (some false)

def impl_CoveredTwice (k : Nat) (a1 : List Int) (a2 : List Int) : Option ((List Int) × Int) :=
  Option.bind (impl_walkCode k a1 [a2]) fun x1 =>
    cond (x1 != 0)
      (some ([], x1))
      (Option.bind (impl_Lawn_those k a1 (fun z2 => (impl_CoveredTwice_1 k [(rd z2 0), (rd z2 1)] a1 a2).bind fun b => some b)) fun x3 =>
        some (x3, 0))

def laws_FnExactCoveredTwice (k : Nat) (a1 : List Int) (a2 : List Int) : Option (Bool) :=
  Option.bind (laws_szCellS k a2 1048576) fun x1 =>
    cond (decide (x1 < 0))
      (some true)
      (Option.bind (laws_toLawn k a1) fun x2 =>
        Option.bind (laws_toCellS k a2) fun x3 =>
          Option.bind (spec_CoveredTwice k x2 x3) fun x4 =>
            Option.bind (laws_toCellS k a2) fun x5 =>
              Option.bind (laws_toLawn k a1) fun x6 =>
                Option.bind (impl_CoveredTwice k x6 x5) fun x7 =>
                  Option.bind (laws_eqCellS k x7.1 x4.1) fun x8 =>
                    cond (!x8)
                      (some false)
                      (cond (x7.2 != x4.2)
                        (some false)
                        (Option.bind (laws_toCellS k a2) fun x9 =>
                          Option.bind (laws_eqCellS k x5 x9) fun x10 =>
                            cond (!x10)
                              (some false)
                              (Option.bind (laws_markCellS k x5 1) fun x11 =>
                                cond (decide (x11.1 < 0))
                                  (some false)
                                  (Option.bind (laws_eqCellS k x7.1 x4.1) fun x12 =>
                                    cond (!x12)
                                      (some false)
                                      (cond (x7.2 != x4.2)
                                        (some false)
                                        (Option.bind (laws_markCellS k x7.1 1) fun x13 =>
                                          Option.bind (laws_heldCellS k x13.2 1) fun x14 =>
                                            cond (decide (x14 < 0))
                                              (some false)
                                              (cond (x14 != x13.1)
                                                (some false)
                                                (Option.bind (laws_toLawn k a1) fun x15 =>
                                                  Option.bind (laws_toCellS k a2) fun x16 =>
                                                    Option.bind (impl_CoveredTwice k x15 x16) fun x17 =>
                                                      Option.bind (laws_eqCellS k x17.1 x4.1) fun x18 =>
                                                        cond (!x18)
                                                          (some false)
                                                          (cond (x17.2 != x4.2)
                                                            (some false)
                                                            (Option.bind (laws_heldCellS k x13.2 1) fun x19 =>
                                                              cond (decide (x19 < 0))
                                                                (some false)
                                                                (cond (x19 != x13.1)
                                                                  (some false)
                                                                  (some true)))))))))))))

def laws_toWear_s0 {R : Type} (k : Nat) (K1 : (List Int) → (List Int) → Option R) (rec : Int → (List Int) → (List Int) → (List Int) → Option R) (h1 : Int) (h2 : List Int) (h3 : List Int) (h4 : List Int) : Option R :=
  cond (decide (h1 < 5))
    (cond ((decide (0 ≤ h1)) && (decide (h1 < 5)))
      (cond ((decide (0 ≤ h1)) && (decide (h1 < 5)))
        (rec (IntKind.wrap .i64 (h1 + 1)) h2 h3 (List.set h4 (0 + h1.toNat * 1) (rd h2 (0 + h1.toNat * 1))))
        none)
      none)
    (K1 h3 h4)

def laws_toWear_l0 {R : Type} (k : Nat) (K1 : (List Int) → (List Int) → Option R) (h1 : Int) (h2 : List Int) (h3 : List Int) (h4 : List Int) : Option R :=
  loopF (fun (rec : Int × (List Int) × (List Int) × (List Int) → Option R) (p : Int × (List Int) × (List Int) × (List Int)) => laws_toWear_s0 k K1 (fun h1 h2 h3 h4 => rec (h1, h2, h3, h4)) p.1 p.2.1 p.2.2.1 p.2.2.2) k (h1, h2, h3, h4)

def laws_toWear (k : Nat) (a1 : List Int) : Option ((List Int)) :=
  laws_toWear_l0 k
    (fun y1 y2 =>
      some [(rd y2 0), (rd y2 1), (rd y2 2), (rd y2 3), (rd y2 4)])
    0 a1 [0, 0, 0, 0, 0] [0, 0, 0, 0, 0]

def spec_l05Wear_s0 {R : Type} (k : Nat) (K1 : Bool → Option R) (K2 : (List Int) → Option R) (rec : (List Int) → Int → Option R) (h1 : List Int) (h2 : Int) : Option R :=
  cond (decide (h2 < 5))
    (cond ((decide (0 ≤ h2)) && (decide (h2 < 5)))
      (Option.bind (spec_l00In k (IntKind.wrap .i64 (rd h1 (0 + h2.toNat * 1))) 0 100) fun x1 =>
        cond (!x1)
          (K1 false)
          (rec h1 (IntKind.wrap .i64 (h2 + 1))))
      none)
    (K2 h1)

def spec_l05Wear_l0 {R : Type} (k : Nat) (K1 : Bool → Option R) (K2 : (List Int) → Option R) (h1 : List Int) (h2 : Int) : Option R :=
  loopF (fun (rec : (List Int) × Int → Option R) (p : (List Int) × Int) => spec_l05Wear_s0 k K1 K2 (fun h1 h2 => rec (h1, h2)) p.1 p.2) k (h1, h2)

def spec_l05Wear (k : Nat) (a1 : List Int) : Option (Bool) :=
  spec_l05Wear_l0 k
    (fun y1 =>
      some y1)
    (fun y2 =>
      some ((rd y2 0) == 0))
    a1 0

def spec_l05Line (k : Nat) (a1 : Int) : Option (Bool) :=
  Option.bind (spec_l00In k a1 1 5000) fun x1 =>
    some x1

def spec_l05Near (k : Nat) (a1 : List Int) : Option ((List Int)) :=
  some [(rd a1 0), (IntKind.wrap .i8 ((rd a1 1) - 1)), (IntKind.wrap .i8 ((rd a1 0) - 1)), (rd a1 1), (IntKind.wrap .i8 ((rd a1 0) + 1)), (rd a1 1), (rd a1 0), (IntKind.wrap .i8 ((rd a1 1) + 1))]

def spec_l05At_s0 {R : Type} (k : Nat) (K1 : (List Int) → (List Int) → Option R) (rec : (List Int) → Int → (List Int) → (List Int) → (List Int) → Option R) (h1 : List Int) (h2 : Int) (h3 : List Int) (h4 : List Int) (h5 : List Int) : Option R :=
  cond (decide (h2 < ((cnt 2 h5) : Int)))
    (cond ((decide (0 ≤ h2)) && (decide (h2 < ((cnt 2 h5) : Int))))
      (Option.bind (spec_l01Is k h1 [(rd h5 (h2.toNat * 2)), (rd h5 ((h2.toNat * 2) + 1))]) fun x1 =>
        cond x1
          (cond ((decide (0 ≤ h2)) && (decide (h2 < ((cnt 2 h5) : Int))))
            (Option.bind (spec_l01At k h1 [(rd h5 (h2.toNat * 2)), (rd h5 ((h2.toNat * 2) + 1))]) fun x2 =>
              cond ((decide (0 ≤ x2)) && (decide (x2 < 5)))
                (cond ((decide (0 ≤ x2)) && (decide (x2 < 5)))
                  (rec h1 (IntKind.wrap .i64 (h2 + 1)) h3 (List.set h4 (0 + x2.toNat * 1) (IntKind.wrap .i64 ((rd h4 (0 + x2.toNat * 1)) + 1))) h5)
                  none)
                none)
            none)
          (rec h1 (IntKind.wrap .i64 (h2 + 1)) h3 (List.set h4 4 (IntKind.wrap .i64 ((rd h4 4) + 1))) h5))
      none)
    (K1 h3 h4)

def spec_l05At_l0 {R : Type} (k : Nat) (K1 : (List Int) → (List Int) → Option R) (h1 : List Int) (h2 : Int) (h3 : List Int) (h4 : List Int) (h5 : List Int) : Option R :=
  loopF (fun (rec : (List Int) × Int × (List Int) × (List Int) × (List Int) → Option R) (p : (List Int) × Int × (List Int) × (List Int) × (List Int)) => spec_l05At_s0 k K1 (fun h1 h2 h3 h4 h5 => rec (h1, h2, h3, h4, h5)) p.1 p.2.1 p.2.2.1 p.2.2.2.1 p.2.2.2.2) k (h1, h2, h3, h4, h5)

def spec_l05At (k : Nat) (a1 : List Int) (a2 : List Int) : Option ((List Int)) :=
  Option.bind (spec_l05Near k [(rd a2 0), (rd a2 1)]) fun x1 =>
    spec_l05At_l0 k
      (fun y2 y3 =>
        some [(rd y3 0), (rd y3 1), (rd y3 2), (rd y3 3), (rd y3 4)])
      a1 0 [0, 0, 0, 0, 0] [0, 0, 0, 0, 0] x1

def spec_l05All_s0 {R : Type} (k : Nat) (K1 : (List Int) → Int → (List Int) → (List Int) → (List Int) → Option R) (rec : (List Int) → Int → Int → (List Int) → (List Int) → (List Int) → (List Int) → Option R) (h1 : List Int) (h2 : Int) (h3 : Int) (h4 : List Int) (h5 : List Int) (h6 : List Int) (h7 : List Int) : Option R :=
  cond (decide (h3 < 5))
    (cond ((decide (0 ≤ h3)) && (decide (h3 < 5)))
      (cond ((decide (0 ≤ h3)) && (decide (h3 < 5)))
        (cond ((decide (0 ≤ h3)) && (decide (h3 < 5)))
          (rec h1 h2 (IntKind.wrap .i64 (h3 + 1)) h4 (List.set h5 (0 + h3.toNat * 1) (IntKind.wrap .i64 ((rd h5 (0 + h3.toNat * 1)) + (rd h7 (0 + h3.toNat * 1))))) h6 h7)
          none)
        none)
      none)
    (K1 h1 h2 h4 h5 h6)

def spec_l05All_l0 {R : Type} (k : Nat) (K1 : (List Int) → Int → (List Int) → (List Int) → (List Int) → Option R) (h1 : List Int) (h2 : Int) (h3 : Int) (h4 : List Int) (h5 : List Int) (h6 : List Int) (h7 : List Int) : Option R :=
  loopF (fun (rec : (List Int) × Int × Int × (List Int) × (List Int) × (List Int) × (List Int) → Option R) (p : (List Int) × Int × Int × (List Int) × (List Int) × (List Int) × (List Int)) => spec_l05All_s0 k K1 (fun h1 h2 h3 h4 h5 h6 h7 => rec (h1, h2, h3, h4, h5, h6, h7)) p.1 p.2.1 p.2.2.1 p.2.2.2.1 p.2.2.2.2.1 p.2.2.2.2.2.1 p.2.2.2.2.2.2) k (h1, h2, h3, h4, h5, h6, h7)

def spec_l05All_s1 {R : Type} (k : Nat) (K1 : (List Int) → (List Int) → Option R) (rec : (List Int) → Int → (List Int) → (List Int) → (List Int) → Option R) (h1 : List Int) (h2 : Int) (h3 : List Int) (h4 : List Int) (h5 : List Int) : Option R :=
  cond (decide (h2 < ((cnt 2 h5) : Int)))
    (cond ((decide (0 ≤ h2)) && (decide (h2 < ((cnt 2 h5) : Int))))
      (Option.bind (spec_l05At k h1 [(rd h5 (h2.toNat * 2)), (rd h5 ((h2.toNat * 2) + 1))]) fun x1 =>
        spec_l05All_l0 k
          (fun y2 y3 y4 y5 y6 =>
            rec y2 (IntKind.wrap .i64 (y3 + 1)) y4 y5 y6)
          h1 h2 0 h3 h4 h5 x1)
      none)
    (K1 h3 h4)

def spec_l05All_l1 {R : Type} (k : Nat) (K1 : (List Int) → (List Int) → Option R) (h1 : List Int) (h2 : Int) (h3 : List Int) (h4 : List Int) (h5 : List Int) : Option R :=
  loopF (fun (rec : (List Int) × Int × (List Int) × (List Int) × (List Int) → Option R) (p : (List Int) × Int × (List Int) × (List Int) × (List Int)) => spec_l05All_s1 k K1 (fun h1 h2 h3 h4 h5 => rec (h1, h2, h3, h4, h5)) p.1 p.2.1 p.2.2.1 p.2.2.2.1 p.2.2.2.2) k (h1, h2, h3, h4, h5)

def spec_l05All (k : Nat) (a1 : List Int) : Option ((List Int)) :=
  Option.bind (spec_l01Cells k a1 0) fun x1 =>
    spec_l05All_l1 k
      (fun y2 y3 =>
        some [(rd y3 0), (rd y3 1), (rd y3 2), (rd y3 3), (rd y3 4)])
      a1 0 [0, 0, 0, 0, 0] [0, 0, 0, 0, 0] x1

def spec_SpoolsFor_s0 {R : Type} (k : Nat) (K1 : Int → Int → Option R) (K2 : Int → (List Int) → (List Int) → Option R) (rec : Int → Int → (List Int) → (List Int) → Option R) (h1 : Int) (h2 : Int) (h3 : List Int) (h4 : List Int) : Option R :=
  cond (decide (h2 < 5))
    (cond ((decide (0 ≤ h2)) && (decide (h2 < 5)))
      (cond (decide ((rd h4 (0 + h2.toNat * 1)) > 0))
        (cond ((decide (0 ≤ h2)) && (decide (h2 < 5)))
          (cond (decide ((IntKind.wrap .i64 (rd h3 (0 + h2.toNat * 1))) > h1))
            (K1 0 6)
            (rec h1 (IntKind.wrap .i64 (h2 + 1)) h3 h4))
          none)
        (rec h1 (IntKind.wrap .i64 (h2 + 1)) h3 h4))
      none)
    (K2 h1 h3 h4)

def spec_SpoolsFor_l0 {R : Type} (k : Nat) (K1 : Int → Int → Option R) (K2 : Int → (List Int) → (List Int) → Option R) (h1 : Int) (h2 : Int) (h3 : List Int) (h4 : List Int) : Option R :=
  loopF (fun (rec : Int × Int × (List Int) × (List Int) → Option R) (p : Int × Int × (List Int) × (List Int)) => spec_SpoolsFor_s0 k K1 K2 (fun h1 h2 h3 h4 => rec (h1, h2, h3, h4)) p.1 p.2.1 p.2.2.1 p.2.2.2) k (h1, h2, h3, h4)

def spec_SpoolsFor_s1 {R : Type} (k : Nat) (K1 : Int → Int → Int → Int → (List Int) → (List Int) → Option R) (rec : Int → Int → Int → Int → Int → (List Int) → (List Int) → Option R) (h1 : Int) (h2 : Int) (h3 : Int) (h4 : Int) (h5 : Int) (h6 : List Int) (h7 : List Int) : Option R :=
  cond ((decide (0 ≤ h4)) && (decide (h4 < 5)))
    (cond (decide (h5 < (rd h7 (0 + h4.toNat * 1))))
      (cond ((decide (0 ≤ h4)) && (decide (h4 < 5)))
        (cond (decide ((IntKind.wrap .i64 (rd h6 (0 + h4.toNat * 1))) > h3))
          (cond ((decide (0 ≤ h4)) && (decide (h4 < 5)))
            (rec h1 (IntKind.wrap .i64 (h2 + 1)) (IntKind.wrap .i64 (h1 - (IntKind.wrap .i64 (rd h6 (0 + h4.toNat * 1))))) h4 (IntKind.wrap .i64 (h5 + 1)) h6 h7)
            none)
          (cond ((decide (0 ≤ h4)) && (decide (h4 < 5)))
            (rec h1 h2 (IntKind.wrap .i64 (h3 - (IntKind.wrap .i64 (rd h6 (0 + h4.toNat * 1))))) h4 (IntKind.wrap .i64 (h5 + 1)) h6 h7)
            none))
        none)
      (K1 h1 h2 h3 h4 h6 h7))
    none

def spec_SpoolsFor_l1 {R : Type} (k : Nat) (K1 : Int → Int → Int → Int → (List Int) → (List Int) → Option R) (h1 : Int) (h2 : Int) (h3 : Int) (h4 : Int) (h5 : Int) (h6 : List Int) (h7 : List Int) : Option R :=
  loopF (fun (rec : Int × Int × Int × Int × Int × (List Int) × (List Int) → Option R) (p : Int × Int × Int × Int × Int × (List Int) × (List Int)) => spec_SpoolsFor_s1 k K1 (fun h1 h2 h3 h4 h5 h6 h7 => rec (h1, h2, h3, h4, h5, h6, h7)) p.1 p.2.1 p.2.2.1 p.2.2.2.1 p.2.2.2.2.1 p.2.2.2.2.2.1 p.2.2.2.2.2.2) k (h1, h2, h3, h4, h5, h6, h7)

def spec_SpoolsFor_s2 {R : Type} (k : Nat) (K1 : Int → Option R) (rec : Int → Int → Int → Int → (List Int) → (List Int) → Option R) (h1 : Int) (h2 : Int) (h3 : Int) (h4 : Int) (h5 : List Int) (h6 : List Int) : Option R :=
  cond (decide (h4 < 5))
    (spec_SpoolsFor_l1 k
      (fun y1 y2 y3 y4 y5 y6 =>
        rec y1 y2 y3 (IntKind.wrap .i64 (y4 + 1)) y5 y6)
      h1 h2 h3 h4 0 h5 h6)
    (K1 h2)

def spec_SpoolsFor_l2 {R : Type} (k : Nat) (K1 : Int → Option R) (h1 : Int) (h2 : Int) (h3 : Int) (h4 : Int) (h5 : List Int) (h6 : List Int) : Option R :=
  loopF (fun (rec : Int × Int × Int × Int × (List Int) × (List Int) → Option R) (p : Int × Int × Int × Int × (List Int) × (List Int)) => spec_SpoolsFor_s2 k K1 (fun h1 h2 h3 h4 h5 h6 => rec (h1, h2, h3, h4, h5, h6)) p.1 p.2.1 p.2.2.1 p.2.2.2.1 p.2.2.2.2.1 p.2.2.2.2.2) k (h1, h2, h3, h4, h5, h6)

def spec_SpoolsFor (k : Nat) (a1 : List Int) (a2 : List Int) (a3 : Int) : Option (Int × Int) :=
  Option.bind (spec_l01Ok k a1) fun x1 =>
    cond (!x1)
      (some (0, 1))
      (Option.bind (spec_l05Wear k a2) fun x2 =>
        cond (!x2)
          (some (0, 1))
          (Option.bind (spec_l05Line k a3) fun x3 =>
            cond (!x3)
              (some (0, 2))
              (Option.bind (spec_l05All k a1) fun x4 =>
                spec_SpoolsFor_l0 k
                  (fun y5 y6 =>
                    some (y5, y6))
                  (fun y7 y8 y9 =>
                    spec_SpoolsFor_l2 k
                      (fun y10 =>
                        some (y10, 0))
                      y7 0 0 1 y8 y9)
                  a3 1 a2 x4)))

def impl_ValidWear_1 (k : Nat) (a1 : Int) : Option (Bool) :=
  Option.bind (impl_within k (IntKind.wrap .i64 a1) 0 100) fun x1 =>
    some (!x1)

def slices_IndexFunc_int8_s0 {R : Type} (k : Nat) (K1 : Int → Option R) (K2 : Option R) (rec : (List Int) → (List Int → Option Bool) → Int → Int → Option R) (h1 : List Int) (h2 : List Int → Option Bool) (h3 : Int) (h4 : Int) : Option R :=
  cond (decide (h4 < h3))
    (cond ((decide (0 ≤ h4)) && (decide (h4 < ((cnt 1 h1) : Int))))
      (Option.bind (h2 [(rd h1 (h4.toNat * 1))]) fun x1 =>
        cond x1
          (K1 h4)
          (rec h1 h2 h3 (IntKind.wrap .i64 (h4 + 1))))
      none)
    (K2)

def slices_IndexFunc_int8_l0 {R : Type} (k : Nat) (K1 : Int → Option R) (K2 : Option R) (h1 : List Int) (h2 : List Int → Option Bool) (h3 : Int) (h4 : Int) : Option R :=
  loopF (fun (rec : (List Int) × (List Int → Option Bool) × Int × Int → Option R) (p : (List Int) × (List Int → Option Bool) × Int × Int) => slices_IndexFunc_int8_s0 k K1 K2 (fun h1 h2 h3 h4 => rec (h1, h2, h3, h4)) p.1 p.2.1 p.2.2.1 p.2.2.2) k (h1, h2, h3, h4)

def slices_IndexFunc_int8 (k : Nat) (a1 : List Int) (a2 : List Int → Option Bool) : Option (Int) :=
  slices_IndexFunc_int8_l0 k
    (fun y1 =>
      some y1)
    (some (-1))
    a1 a2 ((cnt 1 a1) : Int) 0

def slices_ContainsFunc_int8 (k : Nat) (a1 : List Int) (a2 : List Int → Option Bool) : Option (Bool) :=
  Option.bind (slices_IndexFunc_int8 k a1 a2) fun x1 =>
    some (decide (x1 ≥ 0))

def impl_ValidWear (k : Nat) (a1 : List Int) : Option (Bool) :=
  cond ((rd a1 0) == 0)
    (Option.bind (slices_ContainsFunc_int8 k (win a1 0 5) (fun z1 => (impl_ValidWear_1 k (rd z1 0)).bind fun b => some b)) fun x2 =>
      some (!x2))
    (some false)

def impl_Lawn_around_s0 {R : Type} (k : Nat) (K1 : (List Int) → (List Int) → Option R) (rec : Int → Int → (List Int) → (List Int) → (List Int) → (List Int) → Option R) (h1 : Int) (h2 : Int) (h3 : List Int) (h4 : List Int) (h5 : List Int) (h6 : List Int) : Option R :=
  cond (decide (h2 < h1))
    (cond ((decide (0 ≤ h2)) && (decide (h2 < ((cnt 2 h6) : Int))))
      (Option.bind (impl_Lawn_has k h3 [(rd h6 (h2.toNat * 2)), (rd h6 ((h2.toNat * 2) + 1))]) fun x1 =>
        cond x1
          (Option.bind (impl_Lawn_kind k h3 [(rd h6 (h2.toNat * 2)), (rd h6 ((h2.toNat * 2) + 1))]) fun x2 =>
            cond ((decide (0 ≤ x2)) && (decide (x2 < 5)))
              (cond ((decide (0 ≤ x2)) && (decide (x2 < 5)))
                (rec h1 (IntKind.wrap .i64 (h2 + 1)) h3 h4 (List.set h5 (0 + x2.toNat * 1) (IntKind.wrap .i64 ((rd h5 (0 + x2.toNat * 1)) + 1))) h6)
                none)
              none)
          (rec h1 (IntKind.wrap .i64 (h2 + 1)) h3 h4 (List.set h5 4 (IntKind.wrap .i64 ((rd h5 4) + 1))) h6))
      none)
    (K1 h4 h5)

def impl_Lawn_around_l0 {R : Type} (k : Nat) (K1 : (List Int) → (List Int) → Option R) (h1 : Int) (h2 : Int) (h3 : List Int) (h4 : List Int) (h5 : List Int) (h6 : List Int) : Option R :=
  loopF (fun (rec : Int × Int × (List Int) × (List Int) × (List Int) × (List Int) → Option R) (p : Int × Int × (List Int) × (List Int) × (List Int) × (List Int)) => impl_Lawn_around_s0 k K1 (fun h1 h2 h3 h4 h5 h6 => rec (h1, h2, h3, h4, h5, h6)) p.1 p.2.1 p.2.2.1 p.2.2.2.1 p.2.2.2.2.1 p.2.2.2.2.2) k (h1, h2, h3, h4, h5, h6)

def impl_Lawn_around (k : Nat) (a1 : List Int) (a2 : List Int) : Option ((List Int)) :=
  Option.bind (impl_beside k [(rd a2 0), (rd a2 1)]) fun x1 =>
    impl_Lawn_around_l0 k
      (fun y2 y3 =>
        some [(rd y3 0), (rd y3 1), (rd y3 2), (rd y3 3), (rd y3 4)])
      ((cnt 2 x1) : Int) 0 a1 [0, 0, 0, 0, 0] [0, 0, 0, 0, 0] x1

def impl_Lawn_sides_s0 {R : Type} (k : Nat) (K1 : Int → Int → (List Int) → (List Int) → (List Int) → (List Int) → Option R) (rec : Int → Int → (List Int) → Int → (List Int) → (List Int) → (List Int) → (List Int) → Option R) (h1 : Int) (h2 : Int) (h3 : List Int) (h4 : Int) (h5 : List Int) (h6 : List Int) (h7 : List Int) (h8 : List Int) : Option R :=
  cond (decide (h4 < 5))
    (cond ((decide (0 ≤ h4)) && (decide (h4 < 5)))
      (cond ((decide (0 ≤ h4)) && (decide (h4 < 5)))
        (cond ((decide (0 ≤ h4)) && (decide (h4 < 5)))
          (rec h1 h2 h3 (IntKind.wrap .i64 (h4 + 1)) h5 h6 (List.set h7 (0 + h4.toNat * 1) (IntKind.wrap .i64 ((rd h7 (0 + h4.toNat * 1)) + (rd h3 (h4.toNat * 1))))) h8)
          none)
        none)
      none)
    (K1 h1 h2 h5 h6 h7 h8)

def impl_Lawn_sides_l0 {R : Type} (k : Nat) (K1 : Int → Int → (List Int) → (List Int) → (List Int) → (List Int) → Option R) (h1 : Int) (h2 : Int) (h3 : List Int) (h4 : Int) (h5 : List Int) (h6 : List Int) (h7 : List Int) (h8 : List Int) : Option R :=
  loopF (fun (rec : Int × Int × (List Int) × Int × (List Int) × (List Int) × (List Int) × (List Int) → Option R) (p : Int × Int × (List Int) × Int × (List Int) × (List Int) × (List Int) × (List Int)) => impl_Lawn_sides_s0 k K1 (fun h1 h2 h3 h4 h5 h6 h7 h8 => rec (h1, h2, h3, h4, h5, h6, h7, h8)) p.1 p.2.1 p.2.2.1 p.2.2.2.1 p.2.2.2.2.1 p.2.2.2.2.2.1 p.2.2.2.2.2.2.1 p.2.2.2.2.2.2.2) k (h1, h2, h3, h4, h5, h6, h7, h8)

def impl_Lawn_sides_s1 {R : Type} (k : Nat) (K1 : (List Int) → (List Int) → Option R) (rec : Int → Int → (List Int) → (List Int) → (List Int) → (List Int) → Option R) (h1 : Int) (h2 : Int) (h3 : List Int) (h4 : List Int) (h5 : List Int) (h6 : List Int) : Option R :=
  cond (decide (h2 < h1))
    (cond ((decide (0 ≤ h2)) && (decide (h2 < ((cnt 2 h6) : Int))))
      (Option.bind (impl_Lawn_around k h3 [(rd h6 (h2.toNat * 2)), (rd h6 ((h2.toNat * 2) + 1))]) fun x1 =>
        impl_Lawn_sides_l0 k
          (fun y2 y3 y4 y5 y6 y7 =>
            rec y2 (IntKind.wrap .i64 (y3 + 1)) y4 y5 y6 y7)
          h1 h2 x1 0 h3 h4 h5 h6)
      none)
    (K1 h4 h5)

def impl_Lawn_sides_l1 {R : Type} (k : Nat) (K1 : (List Int) → (List Int) → Option R) (h1 : Int) (h2 : Int) (h3 : List Int) (h4 : List Int) (h5 : List Int) (h6 : List Int) : Option R :=
  loopF (fun (rec : Int × Int × (List Int) × (List Int) × (List Int) × (List Int) → Option R) (p : Int × Int × (List Int) × (List Int) × (List Int) × (List Int)) => impl_Lawn_sides_s1 k K1 (fun h1 h2 h3 h4 h5 h6 => rec (h1, h2, h3, h4, h5, h6)) p.1 p.2.1 p.2.2.1 p.2.2.2.1 p.2.2.2.2.1 p.2.2.2.2.2) k (h1, h2, h3, h4, h5, h6)

def impl_Lawn_sides (k : Nat) (a1 : List Int) : Option ((List Int)) :=
  Option.bind (impl_Lawn_those k a1 (fun z1 => (impl_Lawn_grass k a1 [(rd z1 0), (rd z1 1)]).bind fun b => some b)) fun x2 =>
    impl_Lawn_sides_l1 k
      (fun y3 y4 =>
        some [(rd y4 0), (rd y4 1), (rd y4 2), (rd y4 3), (rd y4 4)])
      ((cnt 2 x2) : Int) 0 a1 [0, 0, 0, 0, 0] [0, 0, 0, 0, 0] x2

def impl_SpoolsFor_s0 {R : Type} (k : Nat) (K1 : Int → Int → Int → (List Int) → Int → (List Int) → Option R) (rec : Int → Int → Int → Int → (List Int) → Int → Int → Int → (List Int) → Option R) (h1 : Int) (h2 : Int) (h3 : Int) (h4 : Int) (h5 : List Int) (h6 : Int) (h7 : Int) (h8 : Int) (h9 : List Int) : Option R :=
  cond (decide (h8 < h7))
    (cond (decide (h3 < h4))
      (rec h1 (IntKind.wrap .i64 (h2 + 1)) (IntKind.wrap .i64 (h1 - h4)) h4 h5 h6 h7 (IntKind.wrap .i64 (h8 + 1)) h9)
      (rec h1 h2 (IntKind.wrap .i64 (h3 - h4)) h4 h5 h6 h7 (IntKind.wrap .i64 (h8 + 1)) h9))
    (K1 h1 h2 h3 h5 h6 h9)

def impl_SpoolsFor_l0 {R : Type} (k : Nat) (K1 : Int → Int → Int → (List Int) → Int → (List Int) → Option R) (h1 : Int) (h2 : Int) (h3 : Int) (h4 : Int) (h5 : List Int) (h6 : Int) (h7 : Int) (h8 : Int) (h9 : List Int) : Option R :=
  loopF (fun (rec : Int × Int × Int × Int × (List Int) × Int × Int × Int × (List Int) → Option R) (p : Int × Int × Int × Int × (List Int) × Int × Int × Int × (List Int)) => impl_SpoolsFor_s0 k K1 (fun h1 h2 h3 h4 h5 h6 h7 h8 h9 => rec (h1, h2, h3, h4, h5, h6, h7, h8, h9)) p.1 p.2.1 p.2.2.1 p.2.2.2.1 p.2.2.2.2.1 p.2.2.2.2.2.1 p.2.2.2.2.2.2.1 p.2.2.2.2.2.2.2.1 p.2.2.2.2.2.2.2.2) k (h1, h2, h3, h4, h5, h6, h7, h8, h9)

def impl_SpoolsFor_s1 {R : Type} (k : Nat) (K1 : Int → Int → Option R) (K2 : Int → Option R) (rec : Int → Int → Int → (List Int) → Int → (List Int) → Option R) (h1 : Int) (h2 : Int) (h3 : Int) (h4 : List Int) (h5 : Int) (h6 : List Int) : Option R :=
  cond (decide (h5 < 5))
    (cond ((decide (0 ≤ h5)) && (decide (h5 < 5)))
      (cond ((decide (0 ≤ h5)) && (decide (h5 < 5)))
        (cond (decide ((rd h4 (h5.toNat * 1)) > 0))
          (cond (decide ((IntKind.wrap .i64 (rd h6 (0 + h5.toNat * 1))) > h1))
            (K1 0 6)
            (impl_SpoolsFor_l0 k
              (fun y1 y2 y3 y4 y5 y6 =>
                rec y1 y2 y3 y4 (IntKind.wrap .i64 (y5 + 1)) y6)
              h1 h2 h3 (IntKind.wrap .i64 (rd h6 (0 + h5.toNat * 1))) h4 h5 (rd h4 (h5.toNat * 1)) 0 h6))
          (impl_SpoolsFor_l0 k
            (fun y7 y8 y9 y10 y11 y12 =>
              rec y7 y8 y9 y10 (IntKind.wrap .i64 (y11 + 1)) y12)
            h1 h2 h3 (IntKind.wrap .i64 (rd h6 (0 + h5.toNat * 1))) h4 h5 (rd h4 (h5.toNat * 1)) 0 h6))
        none)
      none)
    (K2 h2)

def impl_SpoolsFor_l1 {R : Type} (k : Nat) (K1 : Int → Int → Option R) (K2 : Int → Option R) (h1 : Int) (h2 : Int) (h3 : Int) (h4 : List Int) (h5 : Int) (h6 : List Int) : Option R :=
  loopF (fun (rec : Int × Int × Int × (List Int) × Int × (List Int) → Option R) (p : Int × Int × Int × (List Int) × Int × (List Int)) => impl_SpoolsFor_s1 k K1 K2 (fun h1 h2 h3 h4 h5 h6 => rec (h1, h2, h3, h4, h5, h6)) p.1 p.2.1 p.2.2.1 p.2.2.2.1 p.2.2.2.2.1 p.2.2.2.2.2) k (h1, h2, h3, h4, h5, h6)

def impl_SpoolsFor (k : Nat) (a1 : List Int) (a2 : List Int) (a3 : Int) : Option (Int × Int) :=
  Option.bind (impl_ValidLawn k a1) fun x1 =>
    cond (!x1)
      (some (0, 1))
      (Option.bind (impl_ValidWear k [(rd a2 0), (rd a2 1), (rd a2 2), (rd a2 3), (rd a2 4)]) fun x2 =>
        cond (!x2)
          (some (0, 1))
          (Option.bind (impl_within k a3 1 5000) fun x3 =>
            cond (!x3)
              (some (0, 2))
              (Option.bind (impl_Lawn_sides k a1) fun x4 =>
                impl_SpoolsFor_l1 k
                  (fun y5 y6 =>
                    some (y5, y6))
                  (fun y7 =>
                    some (y7, 0))
                  a3 0 0 x4 0 a2)))

def laws_FnExactSpoolsFor (k : Nat) (a1 : List Int) (a2 : List Int) (a3 : Int) : Option (Bool) :=
  Option.bind (laws_toLawn k a1) fun x1 =>
    Option.bind (laws_toWear k [(rd a2 0), (rd a2 1), (rd a2 2), (rd a2 3), (rd a2 4)]) fun x2 =>
      Option.bind (spec_SpoolsFor k x1 x2 a3) fun x3 =>
        Option.bind (laws_toLawn k a1) fun x4 =>
          Option.bind (laws_toWear k [(rd a2 0), (rd a2 1), (rd a2 2), (rd a2 3), (rd a2 4)]) fun x5 =>
            Option.bind (impl_SpoolsFor k x4 x5 a3) fun x6 =>
              cond (x6.1 != x3.1)
                (some false)
                (cond (x6.2 != x3.2)
                  (some false)
                  (some true))

def spec_l01Told (k : Nat) (a1 : List Int) (a2 : Bool) : Option (Int) :=
  Option.bind (spec_l01Ok k a1) fun x1 =>
    cond (!x1)
      (some 1)
      (cond (!a2)
        (some 2)
        (some 0))

def spec_l02Letter_s0 {R : Type} (k : Nat) (K1 : Int → Option R) (K2 : Option R) (rec : Int → Int → Option R) (h1 : Int) (h2 : Int) : Option R :=
  cond (decide (h2 < 4))
    (cond ((decide (0 ≤ h2)) && (decide (h2 < ((ByteArray.mk #[78, 87, 69, 83]).size : Int))))
      (cond ((((ByteArray.mk #[78, 87, 69, 83]).data.toList.getD h2.toNat 0).toNat : Int) == h1)
        (K1 h2)
        (rec h1 (IntKind.wrap .i64 (h2 + 1))))
      none)
    (K2)

def spec_l02Letter_l0 {R : Type} (k : Nat) (K1 : Int → Option R) (K2 : Option R) (h1 : Int) (h2 : Int) : Option R :=
  loopF (fun (rec : Int × Int → Option R) (p : Int × Int) => spec_l02Letter_s0 k K1 K2 (fun h1 h2 => rec (h1, h2)) p.1 p.2) k (h1, h2)

def spec_l02Letter (k : Nat) (a1 : Int) : Option (Int) :=
  spec_l02Letter_l0 k
    (fun y1 =>
      some y1)
    (some (-1))
    a1 0

def spec_l02Way_s0 {R : Type} (k : Nat) (K1 : Int → Option R) (K2 : Option R) (rec : ByteArray → Int → Option R) (h1 : ByteArray) (h2 : Int) : Option R :=
  cond (decide (h2 < (h1.size : Int)))
    (cond ((decide (0 ≤ h2)) && (decide (h2 < (h1.size : Int))))
      (Option.bind (spec_l02Letter k ((h1.data.toList.getD h2.toNat 0).toNat : Int)) fun x1 =>
        cond (decide (x1 < 0))
          (K1 5)
          (rec h1 (IntKind.wrap .i64 (h2 + 1))))
      none)
    (K2)

def spec_l02Way_l0 {R : Type} (k : Nat) (K1 : Int → Option R) (K2 : Option R) (h1 : ByteArray) (h2 : Int) : Option R :=
  loopF (fun (rec : ByteArray × Int → Option R) (p : ByteArray × Int) => spec_l02Way_s0 k K1 K2 (fun h1 h2 => rec (h1, h2)) p.1 p.2) k (h1, h2)

def spec_l02Way (k : Nat) (a1 : ByteArray) : Option (Int) :=
  cond (decide ((a1.size : Int) > 200))
    (some 3)
    (spec_l02Way_l0 k
      (fun y1 =>
        some y1)
      (some 0)
      a1 0)

def spec_l02Told (k : Nat) (a1 : List Int) (a2 : List Int) (a3 : ByteArray) : Option (Int) :=
  Option.bind (spec_l01Is k a1 [(rd a2 0), (rd a2 1)]) fun x1 =>
    Option.bind (spec_l01Told k a1 x1) fun x2 =>
      cond (x2 == 0)
        (Option.bind (spec_l02Way k a3) fun x3 =>
          some x3)
        (some x2)

def spec_l02Free (k : Nat) (a1 : List Int) (a2 : List Int) : Option (Bool) :=
  Option.bind (spec_l01Is k a1 [(rd a2 0), (rd a2 1)]) fun x1 =>
    cond x1
      (Option.bind (spec_l01Open k a1 [(rd a2 0), (rd a2 1)]) fun x2 =>
        some x2)
      (some false)

def spec_l02Next (k : Nat) (a1 : List Int) (a2 : Int) : Option ((List Int)) :=
  cond (a2 == 0)
    (some [(rd a1 0), (IntKind.wrap .i8 ((rd a1 1) - 1))])
    (cond (a2 == 1)
      (some [(IntKind.wrap .i8 ((rd a1 0) - 1)), (rd a1 1)])
      (cond (a2 == 2)
        (some [(IntKind.wrap .i8 ((rd a1 0) + 1)), (rd a1 1)])
        (some [(rd a1 0), (IntKind.wrap .i8 ((rd a1 1) + 1))])))

def spec_l02Come_s0 {R : Type} (k : Nat) (K1 : Bool → (List Int) → Option R) (K2 : (List Int) → Option R) (rec : (List Int) → ByteArray → Int → (List Int) → (List Int) → Option R) (h1 : List Int) (h2 : ByteArray) (h3 : Int) (h4 : List Int) (h5 : List Int) : Option R :=
  cond (decide (h3 < (h2.size : Int)))
    (cond ((decide (0 ≤ h3)) && (decide (h3 < (h2.size : Int))))
      (Option.bind (spec_l02Letter k ((h2.data.toList.getD h3.toNat 0).toNat : Int)) fun x1 =>
        Option.bind (spec_l02Next k [(rd h4 0), (rd h4 1)] x1) fun x2 =>
          Option.bind (spec_l02Free k h1 [(rd x2 0), (rd x2 1)]) fun x3 =>
            cond (!x3)
              (K1 false h5)
              (cond (decide (h5.length + 2 ≤ bigLen))
                (rec h1 h2 (IntKind.wrap .i64 (h3 + 1)) x2 (h5 ++ [(rd x2 0), (rd x2 1)]))
                none))
      none)
    (K2 h5)

def spec_l02Come_l0 {R : Type} (k : Nat) (K1 : Bool → (List Int) → Option R) (K2 : (List Int) → Option R) (h1 : List Int) (h2 : ByteArray) (h3 : Int) (h4 : List Int) (h5 : List Int) : Option R :=
  loopF (fun (rec : (List Int) × ByteArray × Int × (List Int) × (List Int) → Option R) (p : (List Int) × ByteArray × Int × (List Int) × (List Int)) => spec_l02Come_s0 k K1 K2 (fun h1 h2 h3 h4 h5 => rec (h1, h2, h3, h4, h5)) p.1 p.2.1 p.2.2.1 p.2.2.2.1 p.2.2.2.2) k (h1, h2, h3, h4, h5)

def spec_l02Come (k : Nat) (a1 : List Int) (a2 : List Int) (a3 : ByteArray) : Option ((List Int) × Bool) :=
  Option.bind (spec_l02Free k a1 [(rd a2 0), (rd a2 1)]) fun x1 =>
    cond (!x1)
      (some ([(rd a2 0), (rd a2 1)], false))
      (spec_l02Come_l0 k
        (fun y2 y3 =>
          some (y3, y2))
        (fun y4 =>
          some (y4, true))
        a1 a3 0 a2 [(rd a2 0), (rd a2 1)])

def spec_l02Gone (k : Nat) (a1 : List Int) (a2 : List Int) (a3 : ByteArray) : Option ((List Int) × Int) :=
  Option.bind (spec_l02Told k a1 [(rd a2 0), (rd a2 1)] a3) fun x1 =>
    cond (x1 != 0)
      (some ([], x1))
      (Option.bind (spec_l02Come k a1 [(rd a2 0), (rd a2 1)] a3) fun x2 =>
        cond (!x2.2)
          (some ([], 4))
          (some (x2.1, 0)))

def spec_EndOf (k : Nat) (a1 : List Int) (a2 : List Int) (a3 : ByteArray) : Option ((List Int) × Int) :=
  Option.bind (spec_l02Gone k a1 [(rd a2 0), (rd a2 1)] a3) fun x1 =>
    cond (x1.2 != 0)
      (some ([0, 0], x1.2))
      (cond ((decide (0 ≤ (IntKind.wrap .i64 (((cnt 2 x1.1) : Int) - 1)))) && (decide ((IntKind.wrap .i64 (((cnt 2 x1.1) : Int) - 1)) < ((cnt 2 x1.1) : Int))))
        (some ([(rd x1.1 ((IntKind.wrap .i64 (((cnt 2 x1.1) : Int) - 1)).toNat * 2)), (rd x1.1 (((IntKind.wrap .i64 (((cnt 2 x1.1) : Int) - 1)).toNat * 2) + 1))], 0))
        none)

def strings_IndexByte (_k : Nat) (a1 : ByteArray) (a2 : Int) : Option (Int) := some (Lib.indexByte a1.data.toList a2.toNat.toUInt8)

def impl_wayCode_s0 {R : Type} (k : Nat) (K1 : Int → Option R) (K2 : Option R) (rec : ByteArray → Int → Int → Option R) (h1 : ByteArray) (h2 : Int) (h3 : Int) : Option R :=
  cond (decide (h3 < h2))
    (cond ((decide (0 ≤ h3)) && (decide (h3 < (h1.size : Int))))
      (Option.bind (strings_IndexByte k (ByteArray.mk #[78, 87, 69, 83]) ((h1.data.toList.getD h3.toNat 0).toNat : Int)) fun x1 =>
        cond (decide (x1 < 0))
          (K1 5)
          (rec h1 h2 (IntKind.wrap .i64 (h3 + 1))))
      none)
    (K2)

def impl_wayCode_l0 {R : Type} (k : Nat) (K1 : Int → Option R) (K2 : Option R) (h1 : ByteArray) (h2 : Int) (h3 : Int) : Option R :=
  loopF (fun (rec : ByteArray × Int × Int → Option R) (p : ByteArray × Int × Int) => impl_wayCode_s0 k K1 K2 (fun h1 h2 h3 => rec (h1, h2, h3)) p.1 p.2.1 p.2.2) k (h1, h2, h3)

def impl_wayCode (k : Nat) (a1 : ByteArray) : Option (Int) :=
  cond (decide ((a1.size : Int) > 200))
    (some 3)
    (impl_wayCode_l0 k
      (fun y1 =>
        some y1)
      (some 0)
      a1 (a1.size : Int) 0)

def impl_go1 (k : Nat) (a1 : List Int) (a2 : Int) : Option ((List Int)) :=
  Option.bind (impl_beside k [(rd a1 0), (rd a1 1)]) fun x1 =>
    Option.bind (strings_IndexByte k (ByteArray.mk #[78, 87, 69, 83]) a2) fun x2 =>
      cond ((decide (0 ≤ x2)) && (decide (x2 < ((cnt 2 x1) : Int))))
        (some [(rd x1 (x2.toNat * 2)), (rd x1 ((x2.toNat * 2) + 1))])
        none

def impl_Lawn_cellsBy_s0 {R : Type} (k : Nat) (K1 : Bool → (List Int) → Option R) (K2 : (List Int) → (List Int) → (List Int) → Option R) (rec : ByteArray → Int → Int → (List Int) → (List Int) → (List Int) → Option R) (h1 : ByteArray) (h2 : Int) (h3 : Int) (h4 : List Int) (h5 : List Int) (h6 : List Int) : Option R :=
  cond (decide (h3 < h2))
    (cond ((decide (0 ≤ h3)) && (decide (h3 < ((cnt 2 h6) : Int))))
      (cond ((decide (0 ≤ h3)) && (decide (h3 < (h1.size : Int))))
        (Option.bind (impl_go1 k [(rd h6 (h3.toNat * 2)), (rd h6 ((h3.toNat * 2) + 1))] ((h1.data.toList.getD h3.toNat 0).toNat : Int)) fun x1 =>
          cond (decide (h6.length + (setAt [0, 0] 0 x1).length ≤ bigLen))
            (cond ((decide (0 ≤ (IntKind.wrap .i64 (h3 + 1)))) && (decide ((IntKind.wrap .i64 (h3 + 1)) < ((cnt 2 (h6 ++ (setAt [0, 0] 0 x1))) : Int))))
              (Option.bind (impl_Lawn_open k h4 [(rd (h6 ++ (setAt [0, 0] 0 x1)) ((IntKind.wrap .i64 (h3 + 1)).toNat * 2)), (rd (h6 ++ (setAt [0, 0] 0 x1)) (((IntKind.wrap .i64 (h3 + 1)).toNat * 2) + 1))]) fun x2 =>
                cond (!x2)
                  (K1 false (h6 ++ (setAt [0, 0] 0 x1)))
                  (rec h1 h2 (IntKind.wrap .i64 (h3 + 1)) h4 h5 (h6 ++ (setAt [0, 0] 0 x1))))
              none)
            none)
        none)
      none)
    (K2 h4 h5 h6)

def impl_Lawn_cellsBy_l0 {R : Type} (k : Nat) (K1 : Bool → (List Int) → Option R) (K2 : (List Int) → (List Int) → (List Int) → Option R) (h1 : ByteArray) (h2 : Int) (h3 : Int) (h4 : List Int) (h5 : List Int) (h6 : List Int) : Option R :=
  loopF (fun (rec : ByteArray × Int × Int × (List Int) × (List Int) × (List Int) → Option R) (p : ByteArray × Int × Int × (List Int) × (List Int) × (List Int)) => impl_Lawn_cellsBy_s0 k K1 K2 (fun h1 h2 h3 h4 h5 h6 => rec (h1, h2, h3, h4, h5, h6)) p.1 p.2.1 p.2.2.1 p.2.2.2.1 p.2.2.2.2.1 p.2.2.2.2.2) k (h1, h2, h3, h4, h5, h6)

def impl_Lawn_cellsBy (k : Nat) (a1 : List Int) (a2 : List Int) (a3 : ByteArray) : Option ((List Int) × Bool) :=
  impl_Lawn_cellsBy_l0 k
    (fun y1 y2 =>
      some (y2, y1))
    (fun y3 y4 y5 =>
      Option.bind (impl_Lawn_open k y3 [(rd y4 0), (rd y4 1)]) fun x6 =>
        some (y5, x6))
    a3 (a3.size : Int) 0 a1 a2 [(rd a2 0), (rd a2 1)]

def impl_walked (k : Nat) (a1 : List Int) (a2 : List Int) (a3 : ByteArray) : Option ((List Int) × Int) :=
  Option.bind (impl_cellsCode k a1 [(rd a2 0), (rd a2 1)]) fun x1 =>
    cond (x1 == 0)
      (Option.bind (impl_wayCode k a3) fun x2 =>
        cond (x2 != 0)
          (some ([], x2))
          (Option.bind (impl_Lawn_cellsBy k a1 [(rd a2 0), (rd a2 1)] a3) fun x3 =>
            cond (!x3.2)
              (some ([], 4))
              (some (x3.1, 0))))
      (cond (x1 != 0)
        (some ([], x1))
        (Option.bind (impl_Lawn_cellsBy k a1 [(rd a2 0), (rd a2 1)] a3) fun x4 =>
          cond (!x4.2)
            (some ([], 4))
            (some (x4.1, 0))))

def impl_EndOf (k : Nat) (a1 : List Int) (a2 : List Int) (a3 : ByteArray) : Option ((List Int) × Int) :=
  Option.bind (impl_walked k a1 [(rd a2 0), (rd a2 1)] a3) fun x1 =>
    cond (x1.2 != 0)
      (some ([0, 0], x1.2))
      (cond ((decide (0 ≤ (IntKind.wrap .i64 (((cnt 2 x1.1) : Int) - 1)))) && (decide ((IntKind.wrap .i64 (((cnt 2 x1.1) : Int) - 1)) < ((cnt 2 x1.1) : Int))))
        (some ([(rd x1.1 ((IntKind.wrap .i64 (((cnt 2 x1.1) : Int) - 1)).toNat * 2)), (rd x1.1 (((IntKind.wrap .i64 (((cnt 2 x1.1) : Int) - 1)).toNat * 2) + 1))], 0))
        none)

def laws_FnExactEndOf (k : Nat) (a1 : List Int) (a2 : List Int) (a3 : ByteArray) : Option (Bool) :=
  cond (decide ((a3.size : Int) > 1048576))
    (some true)
    (Option.bind (laws_toLawn k a1) fun x1 =>
      Option.bind (laws_toCell k [(rd a2 0), (rd a2 1)]) fun x2 =>
        Option.bind (spec_EndOf k x1 x2 a3) fun x3 =>
          Option.bind (laws_toLawn k a1) fun x4 =>
            Option.bind (laws_toCell k [(rd a2 0), (rd a2 1)]) fun x5 =>
              Option.bind (impl_EndOf k x4 x5 a3) fun x6 =>
                Option.bind (laws_eqCell k [(rd x6.1 0), (rd x6.1 1)] [(rd x3.1 0), (rd x3.1 1)]) fun x7 =>
                  cond (!x7)
                    (some false)
                    (cond (x6.2 != x3.2)
                      (some false)
                      (some true)))

def spec_l01Beside_s0 {R : Type} (k : Nat) (K1 : (List Int) → Option R) (rec : (List Int) → Int → (List Int) → (List Int) → Option R) (h1 : List Int) (h2 : Int) (h3 : List Int) (h4 : List Int) : Option R :=
  cond (decide (h2 < ((cnt 2 h3) : Int)))
    (cond ((decide (0 ≤ h2)) && (decide (h2 < ((cnt 2 h3) : Int))))
      (Option.bind (spec_l01Is k h1 [(rd h3 (h2.toNat * 2)), (rd h3 ((h2.toNat * 2) + 1))]) fun x1 =>
        cond x1
          (cond ((decide (0 ≤ h2)) && (decide (h2 < ((cnt 2 h3) : Int))))
            (cond (decide (h4.length + 2 ≤ bigLen))
              (rec h1 (IntKind.wrap .i64 (h2 + 1)) h3 (h4 ++ [(rd h3 (h2.toNat * 2)), (rd h3 ((h2.toNat * 2) + 1))]))
              none)
            none)
          (rec h1 (IntKind.wrap .i64 (h2 + 1)) h3 h4))
      none)
    (K1 h4)

def spec_l01Beside_l0 {R : Type} (k : Nat) (K1 : (List Int) → Option R) (h1 : List Int) (h2 : Int) (h3 : List Int) (h4 : List Int) : Option R :=
  loopF (fun (rec : (List Int) × Int × (List Int) × (List Int) → Option R) (p : (List Int) × Int × (List Int) × (List Int)) => spec_l01Beside_s0 k K1 (fun h1 h2 h3 h4 => rec (h1, h2, h3, h4)) p.1 p.2.1 p.2.2.1 p.2.2.2) k (h1, h2, h3, h4)

def spec_l01Beside (k : Nat) (a1 : List Int) (a2 : List Int) : Option ((List Int)) :=
  spec_l01Beside_l0 k
    (fun y1 =>
      some y1)
    a1 0 [(rd a2 0), (IntKind.wrap .i8 ((rd a2 1) - 1)), (IntKind.wrap .i8 ((rd a2 0) - 1)), (rd a2 1), (IntKind.wrap .i8 ((rd a2 0) + 1)), (rd a2 1), (rd a2 0), (IntKind.wrap .i8 ((rd a2 1) + 1))] []

def spec_l01Reach_s0 {R : Type} (k : Nat) (K1 : (List Int) → Bool → Int → (List Int) → (List Int) → (List Int) → Option R) (rec : (List Int) → Bool → Int → Int → (List Int) → (List Int) → (List Int) → Option R) (h1 : List Int) (h2 : Bool) (h3 : Int) (h4 : Int) (h5 : List Int) (h6 : List Int) (h7 : List Int) : Option R :=
  cond (decide (h4 < 10))
    (cond ((decide (0 ≤ h3)) && (decide (h3 < 10)))
      (cond ((decide (0 ≤ h4)) && (decide (h4 < 10)))
        (rec h1 h2 h3 (IntKind.wrap .i64 (h4 + 1)) h5 h6 (List.set h7 ((0 + h3.toNat * 10) + h4.toNat * 1) (-1)))
        none)
      none)
    (K1 h1 h2 h3 h5 h6 h7)

def spec_l01Reach_l0 {R : Type} (k : Nat) (K1 : (List Int) → Bool → Int → (List Int) → (List Int) → (List Int) → Option R) (h1 : List Int) (h2 : Bool) (h3 : Int) (h4 : Int) (h5 : List Int) (h6 : List Int) (h7 : List Int) : Option R :=
  loopF (fun (rec : (List Int) × Bool × Int × Int × (List Int) × (List Int) × (List Int) → Option R) (p : (List Int) × Bool × Int × Int × (List Int) × (List Int) × (List Int)) => spec_l01Reach_s0 k K1 (fun h1 h2 h3 h4 h5 h6 h7 => rec (h1, h2, h3, h4, h5, h6, h7)) p.1 p.2.1 p.2.2.1 p.2.2.2.1 p.2.2.2.2.1 p.2.2.2.2.2.1 p.2.2.2.2.2.2) k (h1, h2, h3, h4, h5, h6, h7)

def spec_l01Reach_s1 {R : Type} (k : Nat) (K1 : (List Int) → Bool → (List Int) → (List Int) → (List Int) → Option R) (rec : (List Int) → Bool → Int → (List Int) → (List Int) → (List Int) → Option R) (h1 : List Int) (h2 : Bool) (h3 : Int) (h4 : List Int) (h5 : List Int) (h6 : List Int) : Option R :=
  cond (decide (h3 < 10))
    (spec_l01Reach_l0 k
      (fun y1 y2 y3 y4 y5 y6 =>
        rec y1 y2 (IntKind.wrap .i64 (y3 + 1)) y4 y5 y6)
      h1 h2 h3 0 h4 h5 h6)
    (K1 h1 h2 h4 h5 h6)

def spec_l01Reach_l1 {R : Type} (k : Nat) (K1 : (List Int) → Bool → (List Int) → (List Int) → (List Int) → Option R) (h1 : List Int) (h2 : Bool) (h3 : Int) (h4 : List Int) (h5 : List Int) (h6 : List Int) : Option R :=
  loopF (fun (rec : (List Int) × Bool × Int × (List Int) × (List Int) × (List Int) → Option R) (p : (List Int) × Bool × Int × (List Int) × (List Int) × (List Int)) => spec_l01Reach_s1 k K1 (fun h1 h2 h3 h4 h5 h6 => rec (h1, h2, h3, h4, h5, h6)) p.1 p.2.1 p.2.2.1 p.2.2.2.1 p.2.2.2.2.1 p.2.2.2.2.2) k (h1, h2, h3, h4, h5, h6)

def spec_l01Reach_s2 {R : Type} (k : Nat) (K1 : (List Int) → Bool → Int → (List Int) → (List Int) → (List Int) → Option R) (rec : (List Int) → Bool → Int → Int → (List Int) → (List Int) → (List Int) → (List Int) → Option R) (h1 : List Int) (h2 : Bool) (h3 : Int) (h4 : Int) (h5 : List Int) (h6 : List Int) (h7 : List Int) (h8 : List Int) : Option R :=
  cond (decide (h4 < ((cnt 2 h8) : Int)))
    (cond ((decide (0 ≤ h4)) && (decide (h4 < ((cnt 2 h8) : Int))))
      (Option.bind (spec_l01Open k h1 [(rd h8 (h4.toNat * 2)), (rd h8 ((h4.toNat * 2) + 1))]) fun x1 =>
        cond (!x1)
          (rec h1 h2 h3 (IntKind.wrap .i64 (h4 + 1)) h5 h6 h7 h8)
          (cond h2
            (cond ((decide (0 ≤ h4)) && (decide (h4 < ((cnt 2 h8) : Int))))
              (Option.bind (spec_l01At k h1 [(rd h8 (h4.toNat * 2)), (rd h8 ((h4.toNat * 2) + 1))]) fun x2 =>
                cond (x2 != 0)
                  (rec h1 h2 h3 (IntKind.wrap .i64 (h4 + 1)) h5 h6 h7 h8)
                  (cond ((decide (0 ≤ h4)) && (decide (h4 < ((cnt 2 h8) : Int))))
                    (cond ((decide (0 ≤ h4)) && (decide (h4 < ((cnt 2 h8) : Int))))
                      (cond ((decide (0 ≤ (rd h8 ((h4.toNat * 2) + 1)))) && (decide ((rd h8 ((h4.toNat * 2) + 1)) < 10)))
                        (cond ((decide (0 ≤ (rd h8 (h4.toNat * 2)))) && (decide ((rd h8 (h4.toNat * 2)) < 10)))
                          (cond (decide ((rd h6 ((0 + (rd h8 ((h4.toNat * 2) + 1)).toNat * 10) + (rd h8 (h4.toNat * 2)).toNat * 1)) ≥ 0))
                            (rec h1 h2 h3 (IntKind.wrap .i64 (h4 + 1)) h5 h6 h7 h8)
                            (cond ((decide (0 ≤ h4)) && (decide (h4 < ((cnt 2 h8) : Int))))
                              (cond ((decide (0 ≤ h4)) && (decide (h4 < ((cnt 2 h8) : Int))))
                                (cond ((decide (0 ≤ h3)) && (decide (h3 < ((cnt 2 h7) : Int))))
                                  (cond ((decide (0 ≤ h3)) && (decide (h3 < ((cnt 2 h7) : Int))))
                                    (cond ((decide (0 ≤ (rd h7 ((h3.toNat * 2) + 1)))) && (decide ((rd h7 ((h3.toNat * 2) + 1)) < 10)))
                                      (cond ((decide (0 ≤ (rd h7 (h3.toNat * 2)))) && (decide ((rd h7 (h3.toNat * 2)) < 10)))
                                        (cond ((decide (0 ≤ (rd h8 ((h4.toNat * 2) + 1)))) && (decide ((rd h8 ((h4.toNat * 2) + 1)) < 10)))
                                          (cond ((decide (0 ≤ (rd h8 (h4.toNat * 2)))) && (decide ((rd h8 (h4.toNat * 2)) < 10)))
                                            (cond ((decide (0 ≤ h4)) && (decide (h4 < ((cnt 2 h8) : Int))))
                                              (cond (decide (h7.length + 2 ≤ bigLen))
                                                (rec h1 h2 h3 (IntKind.wrap .i64 (h4 + 1)) h5 (List.set h6 ((0 + (rd h8 ((h4.toNat * 2) + 1)).toNat * 10) + (rd h8 (h4.toNat * 2)).toNat * 1) (IntKind.wrap .i64 ((rd h6 ((0 + (rd h7 ((h3.toNat * 2) + 1)).toNat * 10) + (rd h7 (h3.toNat * 2)).toNat * 1)) + 1))) (h7 ++ [(rd h8 (h4.toNat * 2)), (rd h8 ((h4.toNat * 2) + 1))]) h8)
                                                none)
                                              none)
                                            none)
                                          none)
                                        none)
                                      none)
                                    none)
                                  none)
                                none)
                              none))
                          none)
                        none)
                      none)
                    none))
              none)
            (cond ((decide (0 ≤ h4)) && (decide (h4 < ((cnt 2 h8) : Int))))
              (cond ((decide (0 ≤ h4)) && (decide (h4 < ((cnt 2 h8) : Int))))
                (cond ((decide (0 ≤ (rd h8 ((h4.toNat * 2) + 1)))) && (decide ((rd h8 ((h4.toNat * 2) + 1)) < 10)))
                  (cond ((decide (0 ≤ (rd h8 (h4.toNat * 2)))) && (decide ((rd h8 (h4.toNat * 2)) < 10)))
                    (cond (decide ((rd h6 ((0 + (rd h8 ((h4.toNat * 2) + 1)).toNat * 10) + (rd h8 (h4.toNat * 2)).toNat * 1)) ≥ 0))
                      (rec h1 h2 h3 (IntKind.wrap .i64 (h4 + 1)) h5 h6 h7 h8)
                      (cond ((decide (0 ≤ h4)) && (decide (h4 < ((cnt 2 h8) : Int))))
                        (cond ((decide (0 ≤ h4)) && (decide (h4 < ((cnt 2 h8) : Int))))
                          (cond ((decide (0 ≤ h3)) && (decide (h3 < ((cnt 2 h7) : Int))))
                            (cond ((decide (0 ≤ h3)) && (decide (h3 < ((cnt 2 h7) : Int))))
                              (cond ((decide (0 ≤ (rd h7 ((h3.toNat * 2) + 1)))) && (decide ((rd h7 ((h3.toNat * 2) + 1)) < 10)))
                                (cond ((decide (0 ≤ (rd h7 (h3.toNat * 2)))) && (decide ((rd h7 (h3.toNat * 2)) < 10)))
                                  (cond ((decide (0 ≤ (rd h8 ((h4.toNat * 2) + 1)))) && (decide ((rd h8 ((h4.toNat * 2) + 1)) < 10)))
                                    (cond ((decide (0 ≤ (rd h8 (h4.toNat * 2)))) && (decide ((rd h8 (h4.toNat * 2)) < 10)))
                                      (cond ((decide (0 ≤ h4)) && (decide (h4 < ((cnt 2 h8) : Int))))
                                        (cond (decide (h7.length + 2 ≤ bigLen))
                                          (rec h1 h2 h3 (IntKind.wrap .i64 (h4 + 1)) h5 (List.set h6 ((0 + (rd h8 ((h4.toNat * 2) + 1)).toNat * 10) + (rd h8 (h4.toNat * 2)).toNat * 1) (IntKind.wrap .i64 ((rd h6 ((0 + (rd h7 ((h3.toNat * 2) + 1)).toNat * 10) + (rd h7 (h3.toNat * 2)).toNat * 1)) + 1))) (h7 ++ [(rd h8 (h4.toNat * 2)), (rd h8 ((h4.toNat * 2) + 1))]) h8)
                                          none)
                                        none)
                                      none)
                                    none)
                                  none)
                                none)
                              none)
                            none)
                          none)
                        none))
                    none)
                  none)
                none)
              none)))
      none)
    (K1 h1 h2 h3 h5 h6 h7)

def spec_l01Reach_l2 {R : Type} (k : Nat) (K1 : (List Int) → Bool → Int → (List Int) → (List Int) → (List Int) → Option R) (h1 : List Int) (h2 : Bool) (h3 : Int) (h4 : Int) (h5 : List Int) (h6 : List Int) (h7 : List Int) (h8 : List Int) : Option R :=
  loopF (fun (rec : (List Int) × Bool × Int × Int × (List Int) × (List Int) × (List Int) × (List Int) → Option R) (p : (List Int) × Bool × Int × Int × (List Int) × (List Int) × (List Int) × (List Int)) => spec_l01Reach_s2 k K1 (fun h1 h2 h3 h4 h5 h6 h7 h8 => rec (h1, h2, h3, h4, h5, h6, h7, h8)) p.1 p.2.1 p.2.2.1 p.2.2.2.1 p.2.2.2.2.1 p.2.2.2.2.2.1 p.2.2.2.2.2.2.1 p.2.2.2.2.2.2.2) k (h1, h2, h3, h4, h5, h6, h7, h8)

def spec_l01Reach_s3 {R : Type} (k : Nat) (K1 : (List Int) → (List Int) → Option R) (rec : (List Int) → Bool → Int → (List Int) → (List Int) → (List Int) → Option R) (h1 : List Int) (h2 : Bool) (h3 : Int) (h4 : List Int) (h5 : List Int) (h6 : List Int) : Option R :=
  cond (decide (h3 < ((cnt 2 h6) : Int)))
    (cond ((decide (0 ≤ h3)) && (decide (h3 < ((cnt 2 h6) : Int))))
      (Option.bind (spec_l01Beside k h1 [(rd h6 (h3.toNat * 2)), (rd h6 ((h3.toNat * 2) + 1))]) fun x1 =>
        spec_l01Reach_l2 k
          (fun y2 y3 y4 y5 y6 y7 =>
            rec y2 y3 (IntKind.wrap .i64 (y4 + 1)) y5 y6 y7)
          h1 h2 h3 0 h4 h5 h6 x1)
      none)
    (K1 h4 h5)

def spec_l01Reach_l3 {R : Type} (k : Nat) (K1 : (List Int) → (List Int) → Option R) (h1 : List Int) (h2 : Bool) (h3 : Int) (h4 : List Int) (h5 : List Int) (h6 : List Int) : Option R :=
  loopF (fun (rec : (List Int) × Bool × Int × (List Int) × (List Int) × (List Int) → Option R) (p : (List Int) × Bool × Int × (List Int) × (List Int) × (List Int)) => spec_l01Reach_s3 k K1 (fun h1 h2 h3 h4 h5 h6 => rec (h1, h2, h3, h4, h5, h6)) p.1 p.2.1 p.2.2.1 p.2.2.2.1 p.2.2.2.2.1 p.2.2.2.2.2) k (h1, h2, h3, h4, h5, h6)

def spec_l01Reach (k : Nat) (a1 : List Int) (a2 : List Int) (a3 : Bool) : Option ((List Int)) :=
  spec_l01Reach_l1 k
    (fun y1 y2 y3 y4 y5 =>
      cond ((decide (0 ≤ (rd y3 1))) && (decide ((rd y3 1) < 10)))
        (cond ((decide (0 ≤ (rd y3 0))) && (decide ((rd y3 0) < 10)))
          (spec_l01Reach_l3 k
            (fun y6 y7 =>
              some y7)
            y1 y2 0 y4 (List.set y5 ((0 + (rd y3 1).toNat * 10) + (rd y3 0).toNat * 1) 0) [(rd y3 0), (rd y3 1)])
          none)
        none)
    a1 a3 0 a2 (List.replicate 100 0) (List.replicate 100 0)

def spec_StepsFrom_s0 {R : Type} (k : Nat) (K1 : (List Int) → Option R) (rec : Int → (List Int) → (List Int) → (List Int) → Option R) (h1 : Int) (h2 : List Int) (h3 : List Int) (h4 : List Int) : Option R :=
  cond (decide (h1 < ((cnt 2 h4) : Int)))
    (cond ((decide (0 ≤ h1)) && (decide (h1 < ((cnt 2 h4) : Int))))
      (cond ((decide (0 ≤ h1)) && (decide (h1 < ((cnt 2 h4) : Int))))
        (cond ((decide (0 ≤ (rd h4 ((h1.toNat * 2) + 1)))) && (decide ((rd h4 ((h1.toNat * 2) + 1)) < 10)))
          (cond ((decide (0 ≤ (rd h4 (h1.toNat * 2)))) && (decide ((rd h4 (h1.toNat * 2)) < 10)))
            (cond (decide (h3.length + 1 ≤ bigLen))
              (rec (IntKind.wrap .i64 (h1 + 1)) h2 (h3 ++ [(rd h2 ((0 + (rd h4 ((h1.toNat * 2) + 1)).toNat * 10) + (rd h4 (h1.toNat * 2)).toNat * 1))]) h4)
              none)
            none)
          none)
        none)
      none)
    (K1 h3)

def spec_StepsFrom_l0 {R : Type} (k : Nat) (K1 : (List Int) → Option R) (h1 : Int) (h2 : List Int) (h3 : List Int) (h4 : List Int) : Option R :=
  loopF (fun (rec : Int × (List Int) × (List Int) × (List Int) → Option R) (p : Int × (List Int) × (List Int) × (List Int)) => spec_StepsFrom_s0 k K1 (fun h1 h2 h3 h4 => rec (h1, h2, h3, h4)) p.1 p.2.1 p.2.2.1 p.2.2.2) k (h1, h2, h3, h4)

def spec_StepsFrom (k : Nat) (a1 : List Int) (a2 : List Int) : Option ((List Int) × Int) :=
  Option.bind (spec_l01Is k a1 [(rd a2 0), (rd a2 1)]) fun x1 =>
    Option.bind (spec_l01Told k a1 x1) fun x2 =>
      cond (x2 != 0)
        (some ([], x2))
        (Option.bind (spec_l01Open k a1 [(rd a2 0), (rd a2 1)]) fun x3 =>
          cond (!x3)
            (some ([], 4))
            (Option.bind (spec_l01Reach k a1 [(rd a2 0), (rd a2 1)] false) fun x4 =>
              Option.bind (spec_l01All k a1) fun x5 =>
                spec_StepsFrom_l0 k
                  (fun y6 =>
                    some (y6, 0))
                  0 x4 [] x5))

def impl_openCode_1 (k : Nat) (a1 : List Int) (a2 : List Int) : Option (Bool) :=
  Option.bind (impl_Lawn_open k a2 [(rd a1 0), (rd a1 1)]) fun x1 =>
    some (!x1)

def impl_openCode (k : Nat) (a1 : List Int) (a2 : List Int) : Option (Int) :=
  Option.bind (impl_cellsCode k a1 a2) fun x1 =>
    cond (x1 == 0)
      (Option.bind (slices_ContainsFunc_impl_Cell k a2 (fun z2 => (impl_openCode_1 k [(rd z2 0), (rd z2 1)] a1).bind fun b => some b)) fun x3 =>
        cond x3
          (some 4)
          (some x1))
      (some x1)

def math_bits_Mul64 (k : Nat) (a1 : Int) (a2 : Int) : Option (Int × Int) :=
  some ((IntKind.wrap .u64 ((IntKind.wrap .u64 ((IntKind.wrap .u64 ((Int.fdiv a1 (2 ^ (min (32 : Int).toNat (IntKind.bits .u64)))) * (Int.fdiv a2 (2 ^ (min (32 : Int).toNat (IntKind.bits .u64)))))) + (Int.fdiv (IntKind.wrap .u64 ((IntKind.wrap .u64 ((Int.fdiv a1 (2 ^ (min (32 : Int).toNat (IntKind.bits .u64)))) * (IntKind.wrap .u64 ((BitVec.ofInt (IntKind.bits .u64) a2 &&& BitVec.ofInt (IntKind.bits .u64) 4294967295).toNat : Int)))) + (Int.fdiv (IntKind.wrap .u64 ((IntKind.wrap .u64 ((BitVec.ofInt (IntKind.bits .u64) a1 &&& BitVec.ofInt (IntKind.bits .u64) 4294967295).toNat : Int)) * (IntKind.wrap .u64 ((BitVec.ofInt (IntKind.bits .u64) a2 &&& BitVec.ofInt (IntKind.bits .u64) 4294967295).toNat : Int)))) (2 ^ (min (32 : Int).toNat (IntKind.bits .u64)))))) (2 ^ (min (32 : Int).toNat (IntKind.bits .u64)))))) + (Int.fdiv (IntKind.wrap .u64 ((IntKind.wrap .u64 ((BitVec.ofInt (IntKind.bits .u64) (IntKind.wrap .u64 ((IntKind.wrap .u64 ((Int.fdiv a1 (2 ^ (min (32 : Int).toNat (IntKind.bits .u64)))) * (IntKind.wrap .u64 ((BitVec.ofInt (IntKind.bits .u64) a2 &&& BitVec.ofInt (IntKind.bits .u64) 4294967295).toNat : Int)))) + (Int.fdiv (IntKind.wrap .u64 ((IntKind.wrap .u64 ((BitVec.ofInt (IntKind.bits .u64) a1 &&& BitVec.ofInt (IntKind.bits .u64) 4294967295).toNat : Int)) * (IntKind.wrap .u64 ((BitVec.ofInt (IntKind.bits .u64) a2 &&& BitVec.ofInt (IntKind.bits .u64) 4294967295).toNat : Int)))) (2 ^ (min (32 : Int).toNat (IntKind.bits .u64)))))) &&& BitVec.ofInt (IntKind.bits .u64) 4294967295).toNat : Int)) + (IntKind.wrap .u64 ((IntKind.wrap .u64 ((BitVec.ofInt (IntKind.bits .u64) a1 &&& BitVec.ofInt (IntKind.bits .u64) 4294967295).toNat : Int)) * (Int.fdiv a2 (2 ^ (min (32 : Int).toNat (IntKind.bits .u64)))))))) (2 ^ (min (32 : Int).toNat (IntKind.bits .u64)))))), (IntKind.wrap .u64 (a1 * a2)))

def math_bits_Mul (k : Nat) (a1 : Int) (a2 : Int) : Option (Int × Int) :=
  Option.bind (math_bits_Mul64 k a1 a2) fun x1 =>
    some (x1.1, x1.2)

def slices_Repeat_int64_s0 {R : Type} (k : Nat) (K1 : (List Int) → Option R) (rec : Int → (List Int) → Option R) (h1 : Int) (h2 : List Int) : Option R :=
  cond (decide (h1 < ((cnt 1 h2) : Int)))
    (cond ((decide (0 ≤ h1)) && (decide (h1 ≤ ((cnt 1 h2) : Int))))
      (cond ((decide (0 ≤ h1)) && (decide (h1 ≤ ((cnt 1 h2) : Int))))
        (rec (IntKind.wrap .i64 (h1 + ((min (cnt 1 (win h2 0 (h1.toNat * 1))) ((cnt 1 h2) - h1.toNat) : Nat) : Int))) (copyI 1 h2 (h1.toNat * 1) ((cnt 1 h2) - h1.toNat) (win h2 0 (h1.toNat * 1))))
        none)
      none)
    (K1 h2)

def slices_Repeat_int64_l0 {R : Type} (k : Nat) (K1 : (List Int) → Option R) (h1 : Int) (h2 : List Int) : Option R :=
  loopF (fun (rec : Int × (List Int) → Option R) (p : Int × (List Int)) => slices_Repeat_int64_s0 k K1 (fun h1 h2 => rec (h1, h2)) p.1 p.2) k (h1, h2)

def slices_Repeat_int64 (k : Nat) (a1 : List Int) (a2 : Int) : Option ((List Int)) :=
  cond (decide (a2 < 0))
    none
    (Option.bind (math_bits_Mul k (IntKind.wrap .u64 ((cnt 1 a1) : Int)) (IntKind.wrap .u64 a2)) fun x1 =>
      cond (decide (x1.1 > 0))
        none
        (cond (decide (x1.2 > 9223372036854775807))
          none
          (cond ((decide (0 ≤ (IntKind.wrap .i64 x1.2))) && ((decide ((IntKind.wrap .i64 x1.2) ≤ 4294967296)) && ((IntKind.wrap .i64 x1.2) == (IntKind.wrap .i64 x1.2))))
            (slices_Repeat_int64_l0 k
              (fun y2 =>
                some y2)
              ((min (cnt 1 a1) (cnt 1 (List.replicate ((IntKind.wrap .i64 x1.2).toNat * 1) 0)) : Nat) : Int) (copyI 1 (List.replicate ((IntKind.wrap .i64 x1.2).toNat * 1) 0) 0 (cnt 1 (List.replicate ((IntKind.wrap .i64 x1.2).toNat * 1) 0)) a1))
            none)))

def impl_Lawn_index (k : Nat) (a1 : List Int) (a2 : List Int) : Option (Int) :=
  some (IntKind.wrap .i64 ((IntKind.wrap .i64 ((IntKind.wrap .i64 (rd a2 1)) * (IntKind.wrap .i64 (rd a1 0)))) + (IntKind.wrap .i64 (rd a2 0))))

def impl_Lawn_steps_s0 {R : Type} (k : Nat) (K1 : (List Int → Option Bool) → (List Int) → (List Int) → (List Int) → Option R) (rec : (List Int → Option Bool) → Int → Int → (List Int) → (List Int) → (List Int) → (List Int) → Option R) (h1 : List Int → Option Bool) (h2 : Int) (h3 : Int) (h4 : List Int) (h5 : List Int) (h6 : List Int) (h7 : List Int) : Option R :=
  cond (decide (h3 < h2))
    (cond ((decide (0 ≤ h3)) && (decide (h3 < ((cnt 2 h7) : Int))))
      (Option.bind (impl_Lawn_has k h4 [(rd h7 (h3.toNat * 2)), (rd h7 ((h3.toNat * 2) + 1))]) fun x1 =>
        cond x1
          (Option.bind (h1 [(rd h7 (h3.toNat * 2)), (rd h7 ((h3.toNat * 2) + 1))]) fun x2 =>
            cond x2
              (Option.bind (impl_Lawn_index k h4 [(rd h7 (h3.toNat * 2)), (rd h7 ((h3.toNat * 2) + 1))]) fun x3 =>
                cond ((decide (0 ≤ x3)) && (decide (x3 < ((cnt 1 h5) : Int))))
                  (cond (decide ((rd h5 (x3.toNat * 1)) < 0))
                    (Option.bind (impl_Lawn_index k h4 [(rd h7 (h3.toNat * 2)), (rd h7 ((h3.toNat * 2) + 1))]) fun x4 =>
                      cond (decide (0 < ((cnt 2 h6) : Int)))
                        (Option.bind (impl_Lawn_index k h4 [(rd h6 0), (rd h6 1)]) fun x5 =>
                          cond ((decide (0 ≤ x5)) && (decide (x5 < ((cnt 1 h5) : Int))))
                            (cond ((decide (0 ≤ x4)) && (decide (x4 < ((cnt 1 h5) : Int))))
                              (cond (decide (h6.length + 2 ≤ bigLen))
                                (rec h1 h2 (IntKind.wrap .i64 (h3 + 1)) h4 (List.set h5 (x4.toNat * 1) (IntKind.wrap .i64 ((rd h5 (x5.toNat * 1)) + 1))) (h6 ++ [(rd h7 (h3.toNat * 2)), (rd h7 ((h3.toNat * 2) + 1))]) h7)
                                none)
                              none)
                            none)
                        none)
                    (rec h1 h2 (IntKind.wrap .i64 (h3 + 1)) h4 h5 h6 h7))
                  none)
              (rec h1 h2 (IntKind.wrap .i64 (h3 + 1)) h4 h5 h6 h7))
          (rec h1 h2 (IntKind.wrap .i64 (h3 + 1)) h4 h5 h6 h7))
      none)
    (K1 h1 h4 h5 h6)

def impl_Lawn_steps_l0 {R : Type} (k : Nat) (K1 : (List Int → Option Bool) → (List Int) → (List Int) → (List Int) → Option R) (h1 : List Int → Option Bool) (h2 : Int) (h3 : Int) (h4 : List Int) (h5 : List Int) (h6 : List Int) (h7 : List Int) : Option R :=
  loopF (fun (rec : (List Int → Option Bool) × Int × Int × (List Int) × (List Int) × (List Int) × (List Int) → Option R) (p : (List Int → Option Bool) × Int × Int × (List Int) × (List Int) × (List Int) × (List Int)) => impl_Lawn_steps_s0 k K1 (fun h1 h2 h3 h4 h5 h6 h7 => rec (h1, h2, h3, h4, h5, h6, h7)) p.1 p.2.1 p.2.2.1 p.2.2.2.1 p.2.2.2.2.1 p.2.2.2.2.2.1 p.2.2.2.2.2.2) k (h1, h2, h3, h4, h5, h6, h7)

def impl_Lawn_steps_s1 {R : Type} (k : Nat) (K1 : (List Int) → Option R) (rec : (List Int → Option Bool) → (List Int) → (List Int) → (List Int) → Option R) (h1 : List Int → Option Bool) (h2 : List Int) (h3 : List Int) (h4 : List Int) : Option R :=
  cond (decide (((cnt 2 h4) : Int) > 0))
    (cond (decide (0 < ((cnt 2 h4) : Int)))
      (Option.bind (impl_beside k [(rd h4 0), (rd h4 1)]) fun x1 =>
        impl_Lawn_steps_l0 k
          (fun y2 y3 y4 y5 =>
            cond (decide (1 ≤ ((cnt 2 y5) : Int)))
              (rec y2 y3 y4 (win y5 2 (((cnt 2 y5) - 1) * 2)))
              none)
          h1 ((cnt 2 x1) : Int) 0 h2 h3 h4 x1)
      none)
    (K1 h3)

def impl_Lawn_steps_l1 {R : Type} (k : Nat) (K1 : (List Int) → Option R) (h1 : List Int → Option Bool) (h2 : List Int) (h3 : List Int) (h4 : List Int) : Option R :=
  loopF (fun (rec : (List Int → Option Bool) × (List Int) × (List Int) × (List Int) → Option R) (p : (List Int → Option Bool) × (List Int) × (List Int) × (List Int)) => impl_Lawn_steps_s1 k K1 (fun h1 h2 h3 h4 => rec (h1, h2, h3, h4)) p.1 p.2.1 p.2.2.1 p.2.2.2) k (h1, h2, h3, h4)

def impl_Lawn_steps (k : Nat) (a1 : List Int) (a2 : List Int) (a3 : List Int → Option Bool) : Option ((List Int)) :=
  Option.bind (slices_Repeat_int64 k [(-1)] (IntKind.wrap .i64 ((IntKind.wrap .i64 (rd a1 0)) * (IntKind.wrap .i64 (rd a1 1))))) fun x1 =>
    Option.bind (impl_Lawn_index k a1 [(rd a2 0), (rd a2 1)]) fun x2 =>
      cond ((decide (0 ≤ x2)) && (decide (x2 < ((cnt 1 x1) : Int))))
        (impl_Lawn_steps_l1 k
          (fun y3 =>
            some y3)
          a3 a1 (List.set x1 (x2.toNat * 1) 0) [(rd a2 0), (rd a2 1)])
        none

def impl_StepsFrom (k : Nat) (a1 : List Int) (a2 : List Int) : Option ((List Int) × Int) :=
  Option.bind (impl_openCode k a1 [(rd a2 0), (rd a2 1)]) fun x1 =>
    cond (x1 != 0)
      (some ([], x1))
      (Option.bind (impl_Lawn_steps k a1 [(rd a2 0), (rd a2 1)] (fun z2 => (impl_Lawn_open k a1 [(rd z2 0), (rd z2 1)]).bind fun b => some b)) fun x3 =>
        some (x3, 0))

def laws_eqInt64S_s0 {R : Type} (k : Nat) (K1 : Bool → Option R) (K2 : Option R) (rec : (List Int) → (List Int) → Int → Option R) (h1 : List Int) (h2 : List Int) (h3 : Int) : Option R :=
  cond (decide (h3 < ((cnt 1 h1) : Int)))
    (cond ((decide (0 ≤ h3)) && (decide (h3 < ((cnt 1 h1) : Int))))
      (cond ((decide (0 ≤ h3)) && (decide (h3 < ((cnt 1 h2) : Int))))
        (cond ((rd h1 (h3.toNat * 1)) != (rd h2 (h3.toNat * 1)))
          (K1 false)
          (rec h1 h2 (IntKind.wrap .i64 (h3 + 1))))
        none)
      none)
    (K2)

def laws_eqInt64S_l0 {R : Type} (k : Nat) (K1 : Bool → Option R) (K2 : Option R) (h1 : List Int) (h2 : List Int) (h3 : Int) : Option R :=
  loopF (fun (rec : (List Int) × (List Int) × Int → Option R) (p : (List Int) × (List Int) × Int) => laws_eqInt64S_s0 k K1 K2 (fun h1 h2 h3 => rec (h1, h2, h3)) p.1 p.2.1 p.2.2) k (h1, h2, h3)

def laws_eqInt64S (k : Nat) (a1 : List Int) (a2 : List Int) : Option (Bool) :=
  cond (((cnt 1 a1) : Int) != ((cnt 1 a2) : Int))
    (some false)
    (laws_eqInt64S_l0 k
      (fun y1 =>
        some y1)
      (some true)
      a1 a2 0)

def laws_markInt64S_s0 {R : Type} (k : Nat) (K1 : Int → (List Int) → Option R) (rec : Int → Int → (List Int) → Option R) (h1 : Int) (h2 : Int) (h3 : List Int) : Option R :=
  cond (decide (h2 < ((cnt 1 h3) : Int)))
    (cond ((decide (0 ≤ h2)) && (decide (h2 < ((cnt 1 h3) : Int))))
      (rec (IntKind.wrap .i64 (h1 + 1)) (IntKind.wrap .i64 (h2 + 1)) (List.set h3 (h2.toNat * 1) h1))
      none)
    (K1 h1 h3)

def laws_markInt64S_l0 {R : Type} (k : Nat) (K1 : Int → (List Int) → Option R) (h1 : Int) (h2 : Int) (h3 : List Int) : Option R :=
  loopF (fun (rec : Int × Int × (List Int) → Option R) (p : Int × Int × (List Int)) => laws_markInt64S_s0 k K1 (fun h1 h2 h3 => rec (h1, h2, h3)) p.1 p.2.1 p.2.2) k (h1, h2, h3)

def laws_markInt64S (k : Nat) (a1 : List Int) (a2 : Int) : Option ((Int) × List Int) :=
  laws_markInt64S_l0 k
    (fun y1 y2 =>
      some (y1, y2))
    a2 0 a1

def laws_heldInt64S_s0 {R : Type} (k : Nat) (K1 : Int → Option R) (K2 : Int → Option R) (rec : (List Int) → Int → Int → Option R) (h1 : List Int) (h2 : Int) (h3 : Int) : Option R :=
  cond (decide (h3 < ((cnt 1 h1) : Int)))
    (cond ((decide (0 ≤ h3)) && (decide (h3 < ((cnt 1 h1) : Int))))
      (cond ((rd h1 (h3.toNat * 1)) != h2)
        (K1 (-1))
        (rec h1 (IntKind.wrap .i64 (h2 + 1)) (IntKind.wrap .i64 (h3 + 1))))
      none)
    (K2 h2)

def laws_heldInt64S_l0 {R : Type} (k : Nat) (K1 : Int → Option R) (K2 : Int → Option R) (h1 : List Int) (h2 : Int) (h3 : Int) : Option R :=
  loopF (fun (rec : (List Int) × Int × Int → Option R) (p : (List Int) × Int × Int) => laws_heldInt64S_s0 k K1 K2 (fun h1 h2 h3 => rec (h1, h2, h3)) p.1 p.2.1 p.2.2) k (h1, h2, h3)

def laws_heldInt64S (k : Nat) (a1 : List Int) (a2 : Int) : Option (Int) :=
  laws_heldInt64S_l0 k
    (fun y1 =>
      some y1)
    (fun y2 =>
      some y2)
    a1 a2 0

def laws_FnExactStepsFrom (k : Nat) (a1 : List Int) (a2 : List Int) : Option (Bool) :=
  Option.bind (laws_toLawn k a1) fun x1 =>
    Option.bind (laws_toCell k [(rd a2 0), (rd a2 1)]) fun x2 =>
      Option.bind (spec_StepsFrom k x1 x2) fun x3 =>
        Option.bind (laws_toLawn k a1) fun x4 =>
          Option.bind (laws_toCell k [(rd a2 0), (rd a2 1)]) fun x5 =>
            Option.bind (impl_StepsFrom k x4 x5) fun x6 =>
              Option.bind (laws_eqInt64S k x6.1 x3.1) fun x7 =>
                cond (!x7)
                  (some false)
                  (cond (x6.2 != x3.2)
                    (some false)
                    (Option.bind (laws_markInt64S k x6.1 1) fun x8 =>
                      Option.bind (laws_heldInt64S k x8.2 1) fun x9 =>
                        cond (decide (x9 < 0))
                          (some false)
                          (cond (x9 != x8.1)
                            (some false)
                            (Option.bind (laws_toLawn k a1) fun x10 =>
                              Option.bind (laws_toCell k [(rd a2 0), (rd a2 1)]) fun x11 =>
                                Option.bind (impl_StepsFrom k x10 x11) fun x12 =>
                                  Option.bind (laws_eqInt64S k x12.1 x3.1) fun x13 =>
                                    cond (!x13)
                                      (some false)
                                      (cond (x12.2 != x3.2)
                                        (some false)
                                        (Option.bind (laws_heldInt64S k x8.2 1) fun x14 =>
                                          cond (decide (x14 < 0))
                                            (some false)
                                            (cond (x14 != x8.1)
                                              (some false)
                                              (some true))))))))

def spec_HomeFrom_s0 {R : Type} (k : Nat) (K1 : ByteArray → (List Int) → (List Int) → (List Int) → (List Int) → Option R) (rec : ByteArray → Int → (List Int) → (List Int) → (List Int) → (List Int) → Option R) (h1 : ByteArray) (h2 : Int) (h3 : List Int) (h4 : List Int) (h5 : List Int) (h6 : List Int) : Option R :=
  cond (decide (h2 < 4))
    (Option.bind (spec_l02Next k [(rd h4 0), (rd h4 1)] h2) fun x1 =>
      Option.bind (spec_l02Free k h3 [(rd x1 0), (rd x1 1)]) fun x2 =>
        cond x2
          (cond ((decide (0 ≤ (rd x1 1))) && (decide ((rd x1 1) < 10)))
            (cond ((decide (0 ≤ (rd x1 0))) && (decide ((rd x1 0) < 10)))
              (cond ((decide (0 ≤ (rd h4 1))) && (decide ((rd h4 1) < 10)))
                (cond ((decide (0 ≤ (rd h4 0))) && (decide ((rd h4 0) < 10)))
                  (cond ((rd h6 ((0 + (rd x1 1).toNat * 10) + (rd x1 0).toNat * 1)) == (IntKind.wrap .i64 ((rd h6 ((0 + (rd h4 1).toNat * 10) + (rd h4 0).toNat * 1)) - 1)))
                    (cond (((decide (0 ≤ (IntKind.wrap .i64 (h2 + 1)))) && (decide ((IntKind.wrap .i64 (h2 + 1)) ≤ ((ByteArray.mk #[78, 87, 69, 83]).size : Int)))) && ((decide (0 ≤ h2)) && (decide (h2 ≤ (((IntKind.wrap .i64 (h2 + 1)).toNat : Nat) : Int)))))
                      (cond (decide (h1.size + ((ByteArray.mk #[78, 87, 69, 83]).extract h2.toNat (IntKind.wrap .i64 (h2 + 1)).toNat).size ≤ bigLen))
                        (K1 (h1 ++ ((ByteArray.mk #[78, 87, 69, 83]).extract h2.toNat (IntKind.wrap .i64 (h2 + 1)).toNat)) h3 [(rd x1 0), (rd x1 1)] h5 h6)
                        none)
                      none)
                    (rec h1 (IntKind.wrap .i64 (h2 + 1)) h3 h4 h5 h6))
                  none)
                none)
              none)
            none)
          (rec h1 (IntKind.wrap .i64 (h2 + 1)) h3 h4 h5 h6))
    (K1 h1 h3 h4 h5 h6)

def spec_HomeFrom_l0 {R : Type} (k : Nat) (K1 : ByteArray → (List Int) → (List Int) → (List Int) → (List Int) → Option R) (h1 : ByteArray) (h2 : Int) (h3 : List Int) (h4 : List Int) (h5 : List Int) (h6 : List Int) : Option R :=
  loopF (fun (rec : ByteArray × Int × (List Int) × (List Int) × (List Int) × (List Int) → Option R) (p : ByteArray × Int × (List Int) × (List Int) × (List Int) × (List Int)) => spec_HomeFrom_s0 k K1 (fun h1 h2 h3 h4 h5 h6 => rec (h1, h2, h3, h4, h5, h6)) p.1 p.2.1 p.2.2.1 p.2.2.2.1 p.2.2.2.2.1 p.2.2.2.2.2) k (h1, h2, h3, h4, h5, h6)

def spec_HomeFrom_s1 {R : Type} (k : Nat) (K1 : ByteArray → Option R) (rec : ByteArray → (List Int) → (List Int) → (List Int) → (List Int) → Option R) (h1 : ByteArray) (h2 : List Int) (h3 : List Int) (h4 : List Int) (h5 : List Int) : Option R :=
  cond (!(eqL [(rd h3 0), (rd h3 1)] [(rd h4 0), (rd h4 1)]))
    (spec_HomeFrom_l0 k
      (fun y1 y2 y3 y4 y5 =>
        rec y1 y2 y3 y4 y5)
      h1 0 h2 h3 h4 h5)
    (K1 h1)

def spec_HomeFrom_l1 {R : Type} (k : Nat) (K1 : ByteArray → Option R) (h1 : ByteArray) (h2 : List Int) (h3 : List Int) (h4 : List Int) (h5 : List Int) : Option R :=
  loopF (fun (rec : ByteArray × (List Int) × (List Int) × (List Int) × (List Int) → Option R) (p : ByteArray × (List Int) × (List Int) × (List Int) × (List Int)) => spec_HomeFrom_s1 k K1 (fun h1 h2 h3 h4 h5 => rec (h1, h2, h3, h4, h5)) p.1 p.2.1 p.2.2.1 p.2.2.2.1 p.2.2.2.2) k (h1, h2, h3, h4, h5)

def spec_HomeFrom (k : Nat) (a1 : List Int) (a2 : List Int) (a3 : List Int) : Option (ByteArray × Int) :=
  Option.bind (spec_l01Is k a1 [(rd a2 0), (rd a2 1)]) fun x1 =>
    cond x1
      (Option.bind (spec_l01Is k a1 [(rd a3 0), (rd a3 1)]) fun x2 =>
        Option.bind (spec_l01Told k a1 x2) fun x3 =>
          cond (x3 != 0)
            (some ((ByteArray.mk #[]), x3))
            (Option.bind (spec_l01Open k a1 [(rd a2 0), (rd a2 1)]) fun x4 =>
              cond (!x4)
                (some ((ByteArray.mk #[]), 4))
                (Option.bind (spec_l01Open k a1 [(rd a3 0), (rd a3 1)]) fun x5 =>
                  cond (!x5)
                    (some ((ByteArray.mk #[]), 4))
                    (Option.bind (spec_l01Reach k a1 [(rd a3 0), (rd a3 1)] false) fun x6 =>
                      cond ((decide (0 ≤ (rd a2 1))) && (decide ((rd a2 1) < 10)))
                        (cond ((decide (0 ≤ (rd a2 0))) && (decide ((rd a2 0) < 10)))
                          (cond (decide ((rd x6 ((0 + (rd a2 1).toNat * 10) + (rd a2 0).toNat * 1)) < 0))
                            (some ((ByteArray.mk #[]), 6))
                            (spec_HomeFrom_l1 k
                              (fun y7 =>
                                some (y7, 0))
                              (ByteArray.mk #[]) a1 a2 a3 x6))
                          none)
                        none))))
      (Option.bind (spec_l01Told k a1 false) fun x8 =>
        cond (x8 != 0)
          (some ((ByteArray.mk #[]), x8))
          (Option.bind (spec_l01Open k a1 [(rd a2 0), (rd a2 1)]) fun x9 =>
            cond (!x9)
              (some ((ByteArray.mk #[]), 4))
              (Option.bind (spec_l01Open k a1 [(rd a3 0), (rd a3 1)]) fun x10 =>
                cond (!x10)
                  (some ((ByteArray.mk #[]), 4))
                  (Option.bind (spec_l01Reach k a1 [(rd a3 0), (rd a3 1)] false) fun x11 =>
                    cond ((decide (0 ≤ (rd a2 1))) && (decide ((rd a2 1) < 10)))
                      (cond ((decide (0 ≤ (rd a2 0))) && (decide ((rd a2 0) < 10)))
                        (cond (decide ((rd x11 ((0 + (rd a2 1).toNat * 10) + (rd a2 0).toNat * 1)) < 0))
                          (some ((ByteArray.mk #[]), 6))
                          (spec_HomeFrom_l1 k
                            (fun y12 =>
                              some (y12, 0))
                            (ByteArray.mk #[]) a1 a2 a3 x11))
                        none)
                      none))))

def impl_Lawn_homeward_s0 {R : Type} (k : Nat) (K1 : (List Int) → (List Int) → (List Int) → (List Int) → (List Int) → Option R) (rec : Int → Int → (List Int) → (List Int) → (List Int) → (List Int) → (List Int) → (List Int) → Option R) (h1 : Int) (h2 : Int) (h3 : List Int) (h4 : List Int) (h5 : List Int) (h6 : List Int) (h7 : List Int) (h8 : List Int) : Option R :=
  cond (decide (h2 < h1))
    (cond ((decide (0 ≤ h2)) && (decide (h2 < ((cnt 2 h8) : Int))))
      (Option.bind (impl_Lawn_open k h3 [(rd h8 (h2.toNat * 2)), (rd h8 ((h2.toNat * 2) + 1))]) fun x1 =>
        cond x1
          (Option.bind (impl_Lawn_index k h3 [(rd h8 (h2.toNat * 2)), (rd h8 ((h2.toNat * 2) + 1))]) fun x2 =>
            cond ((decide (0 ≤ x2)) && (decide (x2 < ((cnt 1 h5) : Int))))
              (Option.bind (impl_Lawn_index k h3 [(rd h7 0), (rd h7 1)]) fun x3 =>
                cond ((decide (0 ≤ x3)) && (decide (x3 < ((cnt 1 h5) : Int))))
                  (cond ((rd h5 (x2.toNat * 1)) == (IntKind.wrap .i64 ((rd h5 (x3.toNat * 1)) - 1)))
                    (K1 h3 h4 h5 h6 [(rd h8 (h2.toNat * 2)), (rd h8 ((h2.toNat * 2) + 1))])
                    (rec h1 (IntKind.wrap .i64 (h2 + 1)) h3 h4 h5 h6 h7 h8))
                  none)
              none)
          (rec h1 (IntKind.wrap .i64 (h2 + 1)) h3 h4 h5 h6 h7 h8))
      none)
    (K1 h3 h4 h5 h6 h7)

def impl_Lawn_homeward_l0 {R : Type} (k : Nat) (K1 : (List Int) → (List Int) → (List Int) → (List Int) → (List Int) → Option R) (h1 : Int) (h2 : Int) (h3 : List Int) (h4 : List Int) (h5 : List Int) (h6 : List Int) (h7 : List Int) (h8 : List Int) : Option R :=
  loopF (fun (rec : Int × Int × (List Int) × (List Int) × (List Int) × (List Int) × (List Int) × (List Int) → Option R) (p : Int × Int × (List Int) × (List Int) × (List Int) × (List Int) × (List Int) × (List Int)) => impl_Lawn_homeward_s0 k K1 (fun h1 h2 h3 h4 h5 h6 h7 h8 => rec (h1, h2, h3, h4, h5, h6, h7, h8)) p.1 p.2.1 p.2.2.1 p.2.2.2.1 p.2.2.2.2.1 p.2.2.2.2.2.1 p.2.2.2.2.2.2.1 p.2.2.2.2.2.2.2) k (h1, h2, h3, h4, h5, h6, h7, h8)

def impl_Lawn_homeward_s1 {R : Type} (k : Nat) (K1 : (List Int) → Option R) (rec : (List Int) → (List Int) → (List Int) → (List Int) → (List Int) → Option R) (h1 : List Int) (h2 : List Int) (h3 : List Int) (h4 : List Int) (h5 : List Int) : Option R :=
  cond (!(eqL [(rd h5 0), (rd h5 1)] [(rd h2 0), (rd h2 1)]))
    (Option.bind (impl_beside k [(rd h5 0), (rd h5 1)]) fun x1 =>
      impl_Lawn_homeward_l0 k
        (fun y2 y3 y4 y5 y6 =>
          cond (decide (y5.length + 2 ≤ bigLen))
            (rec y2 y3 y4 (y5 ++ [(rd y6 0), (rd y6 1)]) [(rd y6 0), (rd y6 1)])
            none)
        ((cnt 2 x1) : Int) 0 h1 h2 h3 h4 h5 x1)
    (K1 h4)

def impl_Lawn_homeward_l1 {R : Type} (k : Nat) (K1 : (List Int) → Option R) (h1 : List Int) (h2 : List Int) (h3 : List Int) (h4 : List Int) (h5 : List Int) : Option R :=
  loopF (fun (rec : (List Int) × (List Int) × (List Int) × (List Int) × (List Int) → Option R) (p : (List Int) × (List Int) × (List Int) × (List Int) × (List Int)) => impl_Lawn_homeward_s1 k K1 (fun h1 h2 h3 h4 h5 => rec (h1, h2, h3, h4, h5)) p.1 p.2.1 p.2.2.1 p.2.2.2.1 p.2.2.2.2) k (h1, h2, h3, h4, h5)

def impl_Lawn_homeward (k : Nat) (a1 : List Int) (a2 : List Int) (a3 : List Int) : Option ((List Int) × Bool) :=
  Option.bind (impl_Lawn_steps k a1 [(rd a3 0), (rd a3 1)] (fun z1 => (impl_Lawn_open k a1 [(rd z1 0), (rd z1 1)]).bind fun b => some b)) fun x2 =>
    Option.bind (impl_Lawn_index k a1 [(rd a2 0), (rd a2 1)]) fun x3 =>
      cond ((decide (0 ≤ x3)) && (decide (x3 < ((cnt 1 x2) : Int))))
        (cond (decide ((rd x2 (x3.toNat * 1)) < 0))
          (some ([], false))
          (impl_Lawn_homeward_l1 k
            (fun y4 =>
              some (y4, true))
            a1 a3 x2 [(rd a2 0), (rd a2 1)] [(rd a2 0), (rd a2 1)]))
        none

def impl_HomeFrom_s0 {R : Type} (k : Nat) (K1 : ByteArray → Option R) (rec : ByteArray → Int → Int → (List Int) → Option R) (h1 : ByteArray) (h2 : Int) (h3 : Int) (h4 : List Int) : Option R :=
  cond (decide (h3 < h2))
    (cond ((decide (0 ≤ h3)) && (decide (h3 < ((cnt 2 h4) : Int))))
      (Option.bind (impl_beside k [(rd h4 (h3.toNat * 2)), (rd h4 ((h3.toNat * 2) + 1))]) fun x1 =>
        cond ((decide (0 ≤ (IntKind.wrap .i64 (h3 + 1)))) && (decide ((IntKind.wrap .i64 (h3 + 1)) < ((cnt 2 h4) : Int))))
          (Option.bind (slices_Index_impl_Cell k x1 [(rd h4 ((IntKind.wrap .i64 (h3 + 1)).toNat * 2)), (rd h4 (((IntKind.wrap .i64 (h3 + 1)).toNat * 2) + 1))]) fun x2 =>
            cond (((decide (0 ≤ (IntKind.wrap .i64 (x2 + 1)))) && (decide ((IntKind.wrap .i64 (x2 + 1)) ≤ ((ByteArray.mk #[78, 87, 69, 83]).size : Int)))) && ((decide (0 ≤ x2)) && (decide (x2 ≤ (((IntKind.wrap .i64 (x2 + 1)).toNat : Nat) : Int)))))
              (cond (decide (h1.size + ((ByteArray.mk #[78, 87, 69, 83]).extract x2.toNat (IntKind.wrap .i64 (x2 + 1)).toNat).size ≤ bigLen))
                (rec (h1 ++ ((ByteArray.mk #[78, 87, 69, 83]).extract x2.toNat (IntKind.wrap .i64 (x2 + 1)).toNat)) h2 (IntKind.wrap .i64 (h3 + 1)) h4)
                none)
              none)
          none)
      none)
    (K1 h1)

def impl_HomeFrom_l0 {R : Type} (k : Nat) (K1 : ByteArray → Option R) (h1 : ByteArray) (h2 : Int) (h3 : Int) (h4 : List Int) : Option R :=
  loopF (fun (rec : ByteArray × Int × Int × (List Int) → Option R) (p : ByteArray × Int × Int × (List Int)) => impl_HomeFrom_s0 k K1 (fun h1 h2 h3 h4 => rec (h1, h2, h3, h4)) p.1 p.2.1 p.2.2.1 p.2.2.2) k (h1, h2, h3, h4)

def impl_HomeFrom (k : Nat) (a1 : List Int) (a2 : List Int) (a3 : List Int) : Option (ByteArray × Int) :=
  Option.bind (impl_openCode k a1 [(rd a2 0), (rd a2 1), (rd a3 0), (rd a3 1)]) fun x1 =>
    cond (x1 != 0)
      (some ((ByteArray.mk #[]), x1))
      (Option.bind (impl_Lawn_homeward k a1 [(rd a2 0), (rd a2 1)] [(rd a3 0), (rd a3 1)]) fun x2 =>
        cond (!x2.2)
          (some ((ByteArray.mk #[]), 6))
          (cond (decide (1 ≤ ((cnt 2 x2.1) : Int)))
            (impl_HomeFrom_l0 k
              (fun y3 =>
                some (y3, 0))
              (ByteArray.mk #[]) ((((cnt 2 x2.1) - 1) : Nat) : Int) 0 x2.1)
            none))

def laws_FnExactHomeFrom (k : Nat) (a1 : List Int) (a2 : List Int) (a3 : List Int) : Option (Bool) :=
  Option.bind (laws_toLawn k a1) fun x1 =>
    Option.bind (laws_toCell k [(rd a2 0), (rd a2 1)]) fun x2 =>
      Option.bind (laws_toCell k [(rd a3 0), (rd a3 1)]) fun x3 =>
        Option.bind (spec_HomeFrom k x1 x2 x3) fun x4 =>
          Option.bind (laws_toLawn k a1) fun x5 =>
            Option.bind (laws_toCell k [(rd a2 0), (rd a2 1)]) fun x6 =>
              Option.bind (laws_toCell k [(rd a3 0), (rd a3 1)]) fun x7 =>
                Option.bind (impl_HomeFrom k x5 x6 x7) fun x8 =>
                  cond (!(x8.1.toList == x4.1.toList))
                    (some false)
                    (cond (x8.2 != x4.2)
                      (some false)
                      (some true))

def laws_szHaulS (k : Nat) (a1 : List Int) (a2 : Int) : Option (Int) :=
  cond (decide ((IntKind.wrap .i64 (a2 - ((cnt 5 a1) : Int))) < 0))
    (some (-1))
    (some (IntKind.wrap .i64 (a2 - ((cnt 5 a1) : Int))))

def laws_toHaul (k : Nat) (a1 : List Int) : Option ((List Int)) :=
  Option.bind (laws_toCell k [(rd a1 0), (rd a1 1)]) fun x1 =>
    Option.bind (laws_toCell k [(rd a1 2), (rd a1 3)]) fun x2 =>
      some [(rd (List.set (setWin (setWin [0, 0, 0, 0, 0] 0 2 x1) 2 2 x2) 4 (rd a1 4)) 0), (rd (List.set (setWin (setWin [0, 0, 0, 0, 0] 0 2 x1) 2 2 x2) 4 (rd a1 4)) 1), (rd (List.set (setWin (setWin [0, 0, 0, 0, 0] 0 2 x1) 2 2 x2) 4 (rd a1 4)) 2), (rd (List.set (setWin (setWin [0, 0, 0, 0, 0] 0 2 x1) 2 2 x2) 4 (rd a1 4)) 3), (rd (List.set (setWin (setWin [0, 0, 0, 0, 0] 0 2 x1) 2 2 x2) 4 (rd a1 4)) 4)]

def laws_toHaulS_s0 {R : Type} (k : Nat) (K1 : (List Int) → Option R) (rec : (List Int) → Int → (List Int) → Option R) (h1 : List Int) (h2 : Int) (h3 : List Int) : Option R :=
  cond (decide (h2 < ((cnt 5 h1) : Int)))
    (cond ((decide (0 ≤ h2)) && (decide (h2 < ((cnt 5 h1) : Int))))
      (Option.bind (laws_toHaul k [(rd h1 (h2.toNat * 5)), (rd h1 ((h2.toNat * 5) + 1)), (rd h1 ((h2.toNat * 5) + 2)), (rd h1 ((h2.toNat * 5) + 3)), (rd h1 ((h2.toNat * 5) + 4))]) fun x1 =>
        cond ((decide (0 ≤ h2)) && (decide (h2 < ((cnt 5 h3) : Int))))
          (rec h1 (IntKind.wrap .i64 (h2 + 1)) (setWin h3 (h2.toNat * 5) 5 x1))
          none)
      none)
    (K1 h3)

def laws_toHaulS_l0 {R : Type} (k : Nat) (K1 : (List Int) → Option R) (h1 : List Int) (h2 : Int) (h3 : List Int) : Option R :=
  loopF (fun (rec : (List Int) × Int × (List Int) → Option R) (p : (List Int) × Int × (List Int)) => laws_toHaulS_s0 k K1 (fun h1 h2 h3 => rec (h1, h2, h3)) p.1 p.2.1 p.2.2) k (h1, h2, h3)

def laws_toHaulS (k : Nat) (a1 : List Int) : Option ((List Int)) :=
  cond ((decide (0 ≤ ((cnt 5 a1) : Int))) && ((decide (((cnt 5 a1) : Int) ≤ 4294967296)) && (((cnt 5 a1) : Int) == ((cnt 5 a1) : Int))))
    (laws_toHaulS_l0 k
      (fun y1 =>
        some y1)
      a1 0 (List.replicate (((cnt 5 a1) : Int).toNat * 5) 0))
    none

def spec_l06Move (k : Nat) (a1 : List Int) (a2 : List Int) (a3 : List Int) : Option ((Int) × List Int) :=
  Option.bind (spec_l01Is k a1 [(rd a3 0), (rd a3 1)]) fun x1 =>
    cond (!x1)
      (some (2, a2))
      (Option.bind (spec_l01Is k a1 [(rd a3 2), (rd a3 3)]) fun x2 =>
        cond (!x2)
          (some (2, a2))
          (Option.bind (spec_l00In k (IntKind.wrap .i64 (rd a3 4)) 1 18) fun x3 =>
            cond (!x3)
              (some (2, a2))
              (Option.bind (spec_l01Grass k a1 [(rd a3 0), (rd a3 1)]) fun x4 =>
                cond (!x4)
                  (some (4, a2))
                  (Option.bind (spec_l01Grass k a1 [(rd a3 2), (rd a3 3)]) fun x5 =>
                    cond (!x5)
                      (some (4, a2))
                      (cond (eqL [(rd a3 0), (rd a3 1)] [(rd a3 2), (rd a3 3)])
                        (some (4, a2))
                        (Option.bind (spec_l06At k a2 [(rd a3 0), (rd a3 1)]) fun x6 =>
                          Option.bind (spec_l06Level k (IntKind.wrap .i64 (x6 - (IntKind.wrap .i64 (rd a3 4))))) fun x7 =>
                            cond (!x7)
                              (some (4, a2))
                              (Option.bind (spec_l06At k a2 [(rd a3 2), (rd a3 3)]) fun x8 =>
                                Option.bind (spec_l06Level k (IntKind.wrap .i64 (x8 + (IntKind.wrap .i64 (rd a3 4))))) fun x9 =>
                                  cond (!x9)
                                    (some (4, a2))
                                    (cond ((decide (0 ≤ (rd a3 1))) && (decide ((rd a3 1) < 10)))
                                      (cond ((decide (0 ≤ (rd a3 0))) && (decide ((rd a3 0) < 10)))
                                        (cond ((decide (0 ≤ (rd a3 1))) && (decide ((rd a3 1) < 10)))
                                          (cond ((decide (0 ≤ (rd a3 0))) && (decide ((rd a3 0) < 10)))
                                            (cond ((decide (0 ≤ (rd a3 3))) && (decide ((rd a3 3) < 10)))
                                              (cond ((decide (0 ≤ (rd a3 2))) && (decide ((rd a3 2) < 10)))
                                                (cond ((decide (0 ≤ (rd a3 3))) && (decide ((rd a3 3) < 10)))
                                                  (cond ((decide (0 ≤ (rd a3 2))) && (decide ((rd a3 2) < 10)))
                                                    (some (0, (List.set (List.set a2 ((0 + (rd a3 1).toNat * 10) + (rd a3 0).toNat * 1) (IntKind.wrap .i8 ((rd a2 ((0 + (rd a3 1).toNat * 10) + (rd a3 0).toNat * 1)) - (rd a3 4)))) ((0 + (rd a3 3).toNat * 10) + (rd a3 2).toNat * 1) (IntKind.wrap .i8 ((rd (List.set a2 ((0 + (rd a3 1).toNat * 10) + (rd a3 0).toNat * 1) (IntKind.wrap .i8 ((rd a2 ((0 + (rd a3 1).toNat * 10) + (rd a3 0).toNat * 1)) - (rd a3 4)))) ((0 + (rd a3 3).toNat * 10) + (rd a3 2).toNat * 1)) + (rd a3 4))))))
                                                    none)
                                                  none)
                                                none)
                                              none)
                                            none)
                                          none)
                                        none)
                                      none))))))))

def spec_MoveAll_s0 {R : Type} (k : Nat) (K1 : Int → (List Int) → Option R) (K2 : (List Int) → (List Int) → Option R) (rec : (List Int) → Int → (List Int) → (List Int) → (List Int) → Option R) (h1 : List Int) (h2 : Int) (h3 : List Int) (h4 : List Int) (h5 : List Int) : Option R :=
  cond (decide (h2 < ((cnt 5 h1) : Int)))
    (cond ((decide (0 ≤ h2)) && (decide (h2 < ((cnt 5 h1) : Int))))
      (Option.bind (spec_l06Move k h3 h4 [(rd h1 (h2.toNat * 5)), (rd h1 ((h2.toNat * 5) + 1)), (rd h1 ((h2.toNat * 5) + 2)), (rd h1 ((h2.toNat * 5) + 3)), (rd h1 ((h2.toNat * 5) + 4))]) fun x1 =>
        cond (x1.1 != 0)
          (K1 x1.1 (List.replicate 100 0))
          (rec h1 (IntKind.wrap .i64 (h2 + 1)) h3 x1.2 h5))
      none)
    (K2 h4 h5)

def spec_MoveAll_l0 {R : Type} (k : Nat) (K1 : Int → (List Int) → Option R) (K2 : (List Int) → (List Int) → Option R) (h1 : List Int) (h2 : Int) (h3 : List Int) (h4 : List Int) (h5 : List Int) : Option R :=
  loopF (fun (rec : (List Int) × Int × (List Int) × (List Int) × (List Int) → Option R) (p : (List Int) × Int × (List Int) × (List Int) × (List Int)) => spec_MoveAll_s0 k K1 K2 (fun h1 h2 h3 h4 h5 => rec (h1, h2, h3, h4, h5)) p.1 p.2.1 p.2.2.1 p.2.2.2.1 p.2.2.2.2) k (h1, h2, h3, h4, h5)

def spec_MoveAll (k : Nat) (a1 : List Int) (a2 : List Int) (a3 : List Int) : Option ((List Int) × Int) :=
  Option.bind (spec_l06Ok k a1 a2) fun x1 =>
    cond (!x1)
      (some ((List.replicate 100 0), 1))
      (cond (decide (((cnt 5 a3) : Int) > 60))
        (some ((List.replicate 100 0), 3))
        (spec_MoveAll_l0 k
          (fun y2 y3 =>
            some (y3, y2))
          (fun y4 y5 =>
            some (y4, 0))
          a3 0 a1 a2 (List.replicate 100 0)))

def impl_Levels_more (k : Nat) (a1 : List Int) (a2 : List Int) (a3 : Int) : Option ((List Int)) :=
  cond ((decide (0 ≤ (rd a2 1))) && (decide ((rd a2 1) < 10)))
    (cond ((decide (0 ≤ (rd a2 0))) && (decide ((rd a2 0) < 10)))
      (cond ((decide (0 ≤ (rd a2 1))) && (decide ((rd a2 1) < 10)))
        (cond ((decide (0 ≤ (rd a2 0))) && (decide ((rd a2 0) < 10)))
          (some (List.set a1 ((0 + (rd a2 1).toNat * 10) + (rd a2 0).toNat * 1) (IntKind.wrap .i8 ((rd a1 ((0 + (rd a2 1).toNat * 10) + (rd a2 0).toNat * 1)) + (IntKind.wrap .i8 a3)))))
          none)
        none)
      none)
    none

def impl_Lawn_move (k : Nat) (a1 : List Int) (a2 : List Int) (a3 : List Int) : Option ((List Int) × Int) :=
  Option.bind (impl_Lawn_has k a1 [(rd a3 0), (rd a3 1)]) fun x1 =>
    cond (!x1)
      (some ((List.replicate 100 0), 2))
      (Option.bind (impl_Lawn_has k a1 [(rd a3 2), (rd a3 3)]) fun x2 =>
        cond (!x2)
          (some ((List.replicate 100 0), 2))
          (Option.bind (impl_within k (IntKind.wrap .i64 (rd a3 4)) 1 18) fun x3 =>
            cond (!x3)
              (some ((List.replicate 100 0), 2))
              (Option.bind (impl_Lawn_grass k a1 [(rd a3 0), (rd a3 1)]) fun x4 =>
                cond (!x4)
                  (some ((List.replicate 100 0), 4))
                  (Option.bind (impl_Lawn_grass k a1 [(rd a3 2), (rd a3 3)]) fun x5 =>
                    cond (!x5)
                      (some ((List.replicate 100 0), 4))
                      (cond (eqL [(rd a3 0), (rd a3 1)] [(rd a3 2), (rd a3 3)])
                        (some ((List.replicate 100 0), 4))
                        (Option.bind (impl_Levels_more k a2 [(rd a3 0), (rd a3 1)] (IntKind.wrap .i64 (0 - (IntKind.wrap .i64 (rd a3 4))))) fun x6 =>
                          Option.bind (impl_Levels_more k x6 [(rd a3 2), (rd a3 3)] (IntKind.wrap .i64 (rd a3 4))) fun x7 =>
                            Option.bind (impl_ValidLevels k a1 x7) fun x8 =>
                              cond (!x8)
                                (some ((List.replicate 100 0), 4))
                                (some (x7, 0))))))))

def impl_MoveAll_s0 {R : Type} (k : Nat) (K1 : Int → (List Int) → (List Int) → Option R) (rec : Int → (List Int) → Int → Int → (List Int) → (List Int) → (List Int) → Option R) (h1 : Int) (h2 : List Int) (h3 : Int) (h4 : Int) (h5 : List Int) (h6 : List Int) (h7 : List Int) : Option R :=
  cond (decide (h4 < h3))
    (cond ((decide (0 ≤ h4)) && (decide (h4 < ((cnt 5 h2) : Int))))
      (cond (h1 == 0)
        (Option.bind (impl_Lawn_move k h5 h6 [(rd h2 (h4.toNat * 5)), (rd h2 ((h4.toNat * 5) + 1)), (rd h2 ((h4.toNat * 5) + 2)), (rd h2 ((h4.toNat * 5) + 3)), (rd h2 ((h4.toNat * 5) + 4))]) fun x1 =>
          rec x1.2 h2 h3 (IntKind.wrap .i64 (h4 + 1)) h5 x1.1 h7)
        (rec h1 h2 h3 (IntKind.wrap .i64 (h4 + 1)) h5 h6 h7))
      none)
    (K1 h1 h6 h7)

def impl_MoveAll_l0 {R : Type} (k : Nat) (K1 : Int → (List Int) → (List Int) → Option R) (h1 : Int) (h2 : List Int) (h3 : Int) (h4 : Int) (h5 : List Int) (h6 : List Int) (h7 : List Int) : Option R :=
  loopF (fun (rec : Int × (List Int) × Int × Int × (List Int) × (List Int) × (List Int) → Option R) (p : Int × (List Int) × Int × Int × (List Int) × (List Int) × (List Int)) => impl_MoveAll_s0 k K1 (fun h1 h2 h3 h4 h5 h6 h7 => rec (h1, h2, h3, h4, h5, h6, h7)) p.1 p.2.1 p.2.2.1 p.2.2.2.1 p.2.2.2.2.1 p.2.2.2.2.2.1 p.2.2.2.2.2.2) k (h1, h2, h3, h4, h5, h6, h7)

def impl_MoveAll (k : Nat) (a1 : List Int) (a2 : List Int) (a3 : List Int) : Option ((List Int) × Int) :=
  Option.bind (impl_soilCode k a1 a2 []) fun x1 =>
    cond (x1 == 0)
      (cond (decide (((cnt 5 a3) : Int) > 60))
        (impl_MoveAll_l0 k
          (fun y2 y3 y4 =>
            cond (y2 != 0)
              (some ((List.replicate 100 0), y2))
              (some (y3, 0)))
          3 a3 ((cnt 5 a3) : Int) 0 a1 a2 (List.replicate 100 0))
        (impl_MoveAll_l0 k
          (fun y5 y6 y7 =>
            cond (y5 != 0)
              (some ((List.replicate 100 0), y5))
              (some (y6, 0)))
          x1 a3 ((cnt 5 a3) : Int) 0 a1 a2 (List.replicate 100 0)))
      (impl_MoveAll_l0 k
        (fun y8 y9 y10 =>
          cond (y8 != 0)
            (some ((List.replicate 100 0), y8))
            (some (y9, 0)))
        x1 a3 ((cnt 5 a3) : Int) 0 a1 a2 (List.replicate 100 0))

def laws_eqInt8A10_s0 {R : Type} (k : Nat) (K1 : Bool → Option R) (K2 : Option R) (rec : Int → (List Int) → (List Int) → Option R) (h1 : Int) (h2 : List Int) (h3 : List Int) : Option R :=
  cond (decide (h1 < 10))
    (cond ((decide (0 ≤ h1)) && (decide (h1 < 10)))
      (cond ((decide (0 ≤ h1)) && (decide (h1 < 10)))
        (cond ((rd h2 (0 + h1.toNat * 1)) != (rd h3 (0 + h1.toNat * 1)))
          (K1 false)
          (rec (IntKind.wrap .i64 (h1 + 1)) h2 h3))
        none)
      none)
    (K2)

def laws_eqInt8A10_l0 {R : Type} (k : Nat) (K1 : Bool → Option R) (K2 : Option R) (h1 : Int) (h2 : List Int) (h3 : List Int) : Option R :=
  loopF (fun (rec : Int × (List Int) × (List Int) → Option R) (p : Int × (List Int) × (List Int)) => laws_eqInt8A10_s0 k K1 K2 (fun h1 h2 h3 => rec (h1, h2, h3)) p.1 p.2.1 p.2.2) k (h1, h2, h3)

def laws_eqInt8A10 (k : Nat) (a1 : List Int) (a2 : List Int) : Option (Bool) :=
  laws_eqInt8A10_l0 k
    (fun y1 =>
      some y1)
    (some true)
    0 a1 a2

def laws_eqLevels_s0 {R : Type} (k : Nat) (K1 : Bool → Option R) (K2 : Option R) (rec : Int → (List Int) → (List Int) → Option R) (h1 : Int) (h2 : List Int) (h3 : List Int) : Option R :=
  cond (decide (h1 < 10))
    (cond ((decide (0 ≤ h1)) && (decide (h1 < 10)))
      (cond ((decide (0 ≤ h1)) && (decide (h1 < 10)))
        (Option.bind (laws_eqInt8A10 k (win h2 (0 + h1.toNat * 10) 10) (win h3 (0 + h1.toNat * 10) 10)) fun x1 =>
          cond (!x1)
            (K1 false)
            (rec (IntKind.wrap .i64 (h1 + 1)) h2 h3))
        none)
      none)
    (K2)

def laws_eqLevels_l0 {R : Type} (k : Nat) (K1 : Bool → Option R) (K2 : Option R) (h1 : Int) (h2 : List Int) (h3 : List Int) : Option R :=
  loopF (fun (rec : Int × (List Int) × (List Int) → Option R) (p : Int × (List Int) × (List Int)) => laws_eqLevels_s0 k K1 K2 (fun h1 h2 h3 => rec (h1, h2, h3)) p.1 p.2.1 p.2.2) k (h1, h2, h3)

def laws_eqLevels (k : Nat) (a1 : List Int) (a2 : List Int) : Option (Bool) :=
  laws_eqLevels_l0 k
    (fun y1 =>
      some y1)
    (some true)
    0 a1 a2

def laws_eqHaul (k : Nat) (a1 : List Int) (a2 : List Int) : Option (Bool) :=
  Option.bind (laws_eqCell k [(rd a1 0), (rd a1 1)] [(rd a2 0), (rd a2 1)]) fun x1 =>
    cond (!x1)
      (some false)
      (Option.bind (laws_eqCell k [(rd a1 2), (rd a1 3)] [(rd a2 2), (rd a2 3)]) fun x2 =>
        cond (!x2)
          (some false)
          (cond ((rd a1 4) != (rd a2 4))
            (some false)
            (some true)))

def laws_eqHaulS_s0 {R : Type} (k : Nat) (K1 : Bool → Option R) (K2 : Option R) (rec : (List Int) → (List Int) → Int → Option R) (h1 : List Int) (h2 : List Int) (h3 : Int) : Option R :=
  cond (decide (h3 < ((cnt 5 h1) : Int)))
    (cond ((decide (0 ≤ h3)) && (decide (h3 < ((cnt 5 h1) : Int))))
      (cond ((decide (0 ≤ h3)) && (decide (h3 < ((cnt 5 h2) : Int))))
        (Option.bind (laws_eqHaul k [(rd h1 (h3.toNat * 5)), (rd h1 ((h3.toNat * 5) + 1)), (rd h1 ((h3.toNat * 5) + 2)), (rd h1 ((h3.toNat * 5) + 3)), (rd h1 ((h3.toNat * 5) + 4))] [(rd h2 (h3.toNat * 5)), (rd h2 ((h3.toNat * 5) + 1)), (rd h2 ((h3.toNat * 5) + 2)), (rd h2 ((h3.toNat * 5) + 3)), (rd h2 ((h3.toNat * 5) + 4))]) fun x1 =>
          cond (!x1)
            (K1 false)
            (rec h1 h2 (IntKind.wrap .i64 (h3 + 1))))
        none)
      none)
    (K2)

def laws_eqHaulS_l0 {R : Type} (k : Nat) (K1 : Bool → Option R) (K2 : Option R) (h1 : List Int) (h2 : List Int) (h3 : Int) : Option R :=
  loopF (fun (rec : (List Int) × (List Int) × Int → Option R) (p : (List Int) × (List Int) × Int) => laws_eqHaulS_s0 k K1 K2 (fun h1 h2 h3 => rec (h1, h2, h3)) p.1 p.2.1 p.2.2) k (h1, h2, h3)

def laws_eqHaulS (k : Nat) (a1 : List Int) (a2 : List Int) : Option (Bool) :=
  cond (((cnt 5 a1) : Int) != ((cnt 5 a2) : Int))
    (some false)
    (laws_eqHaulS_l0 k
      (fun y1 =>
        some y1)
      (some true)
      a1 a2 0)

def laws_FnExactMoveAll (k : Nat) (a1 : List Int) (a2 : List Int) (a3 : List Int) : Option (Bool) :=
  Option.bind (laws_szHaulS k a3 1048576) fun x1 =>
    cond (decide (x1 < 0))
      (some true)
      (Option.bind (laws_toLawn k a1) fun x2 =>
        Option.bind (laws_toLevels k a2) fun x3 =>
          Option.bind (laws_toHaulS k a3) fun x4 =>
            Option.bind (spec_MoveAll k x2 x3 x4) fun x5 =>
              Option.bind (laws_toHaulS k a3) fun x6 =>
                Option.bind (laws_toLawn k a1) fun x7 =>
                  Option.bind (laws_toLevels k a2) fun x8 =>
                    Option.bind (impl_MoveAll k x7 x8 x6) fun x9 =>
                      Option.bind (laws_eqLevels k x9.1 x5.1) fun x10 =>
                        cond (!x10)
                          (some false)
                          (cond (x9.2 != x5.2)
                            (some false)
                            (Option.bind (laws_toHaulS k a3) fun x11 =>
                              Option.bind (laws_eqHaulS k x6 x11) fun x12 =>
                                cond (!x12)
                                  (some false)
                                  (some true))))


end Go.Proofs.Ytkblhnedillknaa.Tt
