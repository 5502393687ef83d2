/- The functions in plain Lean. -/
import Derived.Test.YtkblhnedillknaaE6
set_option linter.unusedVariables false
set_option linter.unusedSimpArgs false
set_option linter.unusedVariables false
namespace Go.Proofs.Ytkblhnedillknaa.Tt
open Go.Ev Go

def laws_toByteA10_s0 {R : Type} (k : Nat) (K1 : (List Int) → (List Int) → Option R) (rec : Int → (List Int) → (List Int) → (List Int) → Option R) (h1 : Int) (h2 : List Int) (h3 : List Int) (h4 : List Int) : Option R :=
  cond (decide (h1 < 10))
    (cond ((decide (0 ≤ h1)) && (decide (h1 < 10)))
      (cond ((decide (0 ≤ h1)) && (decide (h1 < 10)))
        (rec (IntKind.wrap .i64 (h1 + 1)) h2 h3 (List.set h4 (0 + h1.toNat * 1) (rd h2 (0 + h1.toNat * 1))))
        none)
      none)
    (K1 h3 h4)

def laws_toByteA10_l0 {R : Type} (k : Nat) (K1 : (List Int) → (List Int) → Option R) (h1 : Int) (h2 : List Int) (h3 : List Int) (h4 : List Int) : Option R :=
  loopF (fun (rec : Int × (List Int) × (List Int) × (List Int) → Option R) (p : Int × (List Int) × (List Int) × (List Int)) => laws_toByteA10_s0 k K1 (fun h1 h2 h3 h4 => rec (h1, h2, h3, h4)) p.1 p.2.1 p.2.2.1 p.2.2.2) k (h1, h2, h3, h4)

def laws_toByteA10 (k : Nat) (a1 : List Int) : Option ((List Int)) :=
  laws_toByteA10_l0 k
    (fun y1 y2 =>
      some y2)
    0 a1 [0, 0, 0, 0, 0, 0, 0, 0, 0, 0] [0, 0, 0, 0, 0, 0, 0, 0, 0, 0]

def laws_toByteA10A10_s0 {R : Type} (k : Nat) (K1 : (List Int) → (List Int) → Option R) (rec : Int → (List Int) → (List Int) → (List Int) → Option R) (h1 : Int) (h2 : List Int) (h3 : List Int) (h4 : List Int) : Option R :=
  cond (decide (h1 < 10))
    (cond ((decide (0 ≤ h1)) && (decide (h1 < 10)))
      (Option.bind (laws_toByteA10 k (win h2 (0 + h1.toNat * 10) 10)) fun x1 =>
        cond ((decide (0 ≤ h1)) && (decide (h1 < 10)))
          (rec (IntKind.wrap .i64 (h1 + 1)) h2 h3 (setWin h4 (0 + h1.toNat * 10) 10 x1))
          none)
      none)
    (K1 h3 h4)

def laws_toByteA10A10_l0 {R : Type} (k : Nat) (K1 : (List Int) → (List Int) → Option R) (h1 : Int) (h2 : List Int) (h3 : List Int) (h4 : List Int) : Option R :=
  loopF (fun (rec : Int × (List Int) × (List Int) × (List Int) → Option R) (p : Int × (List Int) × (List Int) × (List Int)) => laws_toByteA10A10_s0 k K1 (fun h1 h2 h3 h4 => rec (h1, h2, h3, h4)) p.1 p.2.1 p.2.2.1 p.2.2.2) k (h1, h2, h3, h4)

def laws_toByteA10A10 (k : Nat) (a1 : List Int) : Option ((List Int)) :=
  laws_toByteA10A10_l0 k
    (fun y1 y2 =>
      some y2)
    0 a1 (List.replicate 100 0) (List.replicate 100 0)

def laws_toLawn (k : Nat) (a1 : List Int) : Option ((List Int)) :=
  Option.bind (laws_toByteA10A10 k (win a1 2 100)) fun x1 =>
    some (setWin (List.set (List.set (List.replicate 102 0) 0 (rd a1 0)) 1 (rd a1 1)) 2 100 x1)

def laws_toInt8A10_s0 {R : Type} (k : Nat) (K1 : (List Int) → (List Int) → Option R) (rec : Int → (List Int) → (List Int) → (List Int) → Option R) (h1 : Int) (h2 : List Int) (h3 : List Int) (h4 : List Int) : Option R :=
  cond (decide (h1 < 10))
    (cond ((decide (0 ≤ h1)) && (decide (h1 < 10)))
      (cond ((decide (0 ≤ h1)) && (decide (h1 < 10)))
        (rec (IntKind.wrap .i64 (h1 + 1)) h2 h3 (List.set h4 (0 + h1.toNat * 1) (rd h2 (0 + h1.toNat * 1))))
        none)
      none)
    (K1 h3 h4)

def laws_toInt8A10_l0 {R : Type} (k : Nat) (K1 : (List Int) → (List Int) → Option R) (h1 : Int) (h2 : List Int) (h3 : List Int) (h4 : List Int) : Option R :=
  loopF (fun (rec : Int × (List Int) × (List Int) × (List Int) → Option R) (p : Int × (List Int) × (List Int) × (List Int)) => laws_toInt8A10_s0 k K1 (fun h1 h2 h3 h4 => rec (h1, h2, h3, h4)) p.1 p.2.1 p.2.2.1 p.2.2.2) k (h1, h2, h3, h4)

def laws_toInt8A10 (k : Nat) (a1 : List Int) : Option ((List Int)) :=
  laws_toInt8A10_l0 k
    (fun y1 y2 =>
      some y2)
    0 a1 [0, 0, 0, 0, 0, 0, 0, 0, 0, 0] [0, 0, 0, 0, 0, 0, 0, 0, 0, 0]

def laws_toLevels_s0 {R : Type} (k : Nat) (K1 : (List Int) → (List Int) → Option R) (rec : Int → (List Int) → (List Int) → (List Int) → Option R) (h1 : Int) (h2 : List Int) (h3 : List Int) (h4 : List Int) : Option R :=
  cond (decide (h1 < 10))
    (cond ((decide (0 ≤ h1)) && (decide (h1 < 10)))
      (Option.bind (laws_toInt8A10 k (win h2 (0 + h1.toNat * 10) 10)) fun x1 =>
        cond ((decide (0 ≤ h1)) && (decide (h1 < 10)))
          (rec (IntKind.wrap .i64 (h1 + 1)) h2 h3 (setWin h4 (0 + h1.toNat * 10) 10 x1))
          none)
      none)
    (K1 h3 h4)

def laws_toLevels_l0 {R : Type} (k : Nat) (K1 : (List Int) → (List Int) → Option R) (h1 : Int) (h2 : List Int) (h3 : List Int) (h4 : List Int) : Option R :=
  loopF (fun (rec : Int × (List Int) × (List Int) × (List Int) → Option R) (p : Int × (List Int) × (List Int) × (List Int)) => laws_toLevels_s0 k K1 (fun h1 h2 h3 h4 => rec (h1, h2, h3, h4)) p.1 p.2.1 p.2.2.1 p.2.2.2) k (h1, h2, h3, h4)

def laws_toLevels (k : Nat) (a1 : List Int) : Option ((List Int)) :=
  laws_toLevels_l0 k
    (fun y1 y2 =>
      some y2)
    0 a1 (List.replicate 100 0) (List.replicate 100 0)

def spec_l00In (k : Nat) (a1 : Int) (a2 : Int) (a3 : Int) : Option (Bool) :=
  cond (decide (a1 ≥ a2))
    (some (decide (a1 ≤ a3)))
    (some false)

def spec_l01Side (k : Nat) (a1 : Int) : Option (Bool) :=
  Option.bind (spec_l00In k a1 1 10) fun x1 =>
    some x1

def spec_l01Kind (k : Nat) (a1 : Int) : Option (Bool) :=
  Option.bind (spec_l00In k a1 0 3) fun x1 =>
    some x1

def spec_l01Is (k : Nat) (a1 : List Int) (a2 : List Int) : Option (Bool) :=
  Option.bind (spec_l00In k (IntKind.wrap .i64 (rd a2 0)) 0 (IntKind.wrap .i64 ((IntKind.wrap .i64 (rd a1 0)) - 1))) fun x1 =>
    cond x1
      (Option.bind (spec_l00In k (IntKind.wrap .i64 (rd a2 1)) 0 (IntKind.wrap .i64 ((IntKind.wrap .i64 (rd a1 1)) - 1))) fun x2 =>
        some x2)
      (some false)

def spec_l01Ok_s0 {R : Type} (k : Nat) (K1 : Bool → Option R) (K2 : (List Int) → Int → Option R) (rec : (List Int) → Int → Int → Option R) (h1 : List Int) (h2 : Int) (h3 : Int) : Option R :=
  cond (decide (h3 < 10))
    (cond ((decide (0 ≤ h2)) && (decide (h2 < 10)))
      (cond ((decide (0 ≤ h3)) && (decide (h3 < 10)))
        (Option.bind (spec_l01Kind k (IntKind.wrap .i64 (rd h1 ((2 + h2.toNat * 10) + h3.toNat * 1)))) fun x1 =>
          cond (!x1)
            (K1 false)
            (cond ((IntKind.wrap .i64 (rd h1 ((2 + h2.toNat * 10) + h3.toNat * 1))) != 0)
              (Option.bind (spec_l01Is k h1 [h3, h2]) fun x2 =>
                cond (!x2)
                  (K1 false)
                  (rec h1 h2 (IntKind.wrap .i8 (h3 + 1))))
              (rec h1 h2 (IntKind.wrap .i8 (h3 + 1)))))
        none)
      none)
    (K2 h1 h2)

def spec_l01Ok_l0 {R : Type} (k : Nat) (K1 : Bool → Option R) (K2 : (List Int) → Int → Option R) (h1 : List Int) (h2 : Int) (h3 : Int) : Option R :=
  loopF (fun (rec : (List Int) × Int × Int → Option R) (p : (List Int) × Int × Int) => spec_l01Ok_s0 k K1 K2 (fun h1 h2 h3 => rec (h1, h2, h3)) p.1 p.2.1 p.2.2) k (h1, h2, h3)

def spec_l01Ok_s1 {R : Type} (k : Nat) (K1 : Bool → Option R) (K2 : Option R) (rec : (List Int) → Int → Option R) (h1 : List Int) (h2 : Int) : Option R :=
  cond (decide (h2 < 10))
    (spec_l01Ok_l0 k
      (fun y1 =>
        K1 y1)
      (fun y2 y3 =>
        rec y2 (IntKind.wrap .i8 (y3 + 1)))
      h1 h2 0)
    (K2)

def spec_l01Ok_l1 {R : Type} (k : Nat) (K1 : Bool → Option R) (K2 : Option R) (h1 : List Int) (h2 : Int) : Option R :=
  loopF (fun (rec : (List Int) × Int → Option R) (p : (List Int) × Int) => spec_l01Ok_s1 k K1 K2 (fun h1 h2 => rec (h1, h2)) p.1 p.2) k (h1, h2)

def spec_l01Ok (k : Nat) (a1 : List Int) : Option (Bool) :=
  Option.bind (spec_l01Side k (IntKind.wrap .i64 (rd a1 0))) fun x1 =>
    cond (!x1)
      (some false)
      (Option.bind (spec_l01Side k (IntKind.wrap .i64 (rd a1 1))) fun x2 =>
        cond (!x2)
          (some false)
          (spec_l01Ok_l1 k
            (fun y3 =>
              some y3)
            (some true)
            a1 0))

def spec_l06Level (k : Nat) (a1 : Int) : Option (Bool) :=
  Option.bind (spec_l00In k a1 (-9) 9) fun x1 =>
    some x1

def spec_l01At (k : Nat) (a1 : List Int) (a2 : List Int) : Option (Int) :=
  cond ((decide (0 ≤ (rd a2 1))) && (decide ((rd a2 1) < 10)))
    (cond ((decide (0 ≤ (rd a2 0))) && (decide ((rd a2 0) < 10)))
      (some (IntKind.wrap .i64 (rd a1 ((2 + (rd a2 1).toNat * 10) + (rd a2 0).toNat * 1))))
      none)
    none

def spec_l01Grass (k : Nat) (a1 : List Int) (a2 : List Int) : Option (Bool) :=
  Option.bind (spec_l01Is k a1 [(rd a2 0), (rd a2 1)]) fun x1 =>
    cond x1
      (Option.bind (spec_l01At k a1 [(rd a2 0), (rd a2 1)]) fun x2 =>
        some (x2 == 0))
      (some false)

def spec_l06Ok_s0 {R : Type} (k : Nat) (K1 : Bool → Option R) (K2 : (List Int) → (List Int) → Int → Option R) (rec : (List Int) → (List Int) → Int → Int → Option R) (h1 : List Int) (h2 : List Int) (h3 : Int) (h4 : Int) : Option R :=
  cond (decide (h4 < 10))
    (cond ((decide (0 ≤ h3)) && (decide (h3 < 10)))
      (cond ((decide (0 ≤ h4)) && (decide (h4 < 10)))
        (Option.bind (spec_l06Level k (IntKind.wrap .i64 (rd h2 ((0 + h3.toNat * 10) + h4.toNat * 1)))) fun x1 =>
          cond (!x1)
            (K1 false)
            (cond ((IntKind.wrap .i64 (rd h2 ((0 + h3.toNat * 10) + h4.toNat * 1))) != 0)
              (Option.bind (spec_l01Grass k h1 [h4, h3]) fun x2 =>
                cond (!x2)
                  (K1 false)
                  (rec h1 h2 h3 (IntKind.wrap .i8 (h4 + 1))))
              (rec h1 h2 h3 (IntKind.wrap .i8 (h4 + 1)))))
        none)
      none)
    (K2 h1 h2 h3)

def spec_l06Ok_l0 {R : Type} (k : Nat) (K1 : Bool → Option R) (K2 : (List Int) → (List Int) → Int → Option R) (h1 : List Int) (h2 : List Int) (h3 : Int) (h4 : Int) : Option R :=
  loopF (fun (rec : (List Int) × (List Int) × Int × Int → Option R) (p : (List Int) × (List Int) × Int × Int) => spec_l06Ok_s0 k K1 K2 (fun h1 h2 h3 h4 => rec (h1, h2, h3, h4)) p.1 p.2.1 p.2.2.1 p.2.2.2) k (h1, h2, h3, h4)

def spec_l06Ok_s1 {R : Type} (k : Nat) (K1 : Bool → Option R) (K2 : Option R) (rec : (List Int) → (List Int) → Int → Option R) (h1 : List Int) (h2 : List Int) (h3 : Int) : Option R :=
  cond (decide (h3 < 10))
    (spec_l06Ok_l0 k
      (fun y1 =>
        K1 y1)
      (fun y2 y3 y4 =>
        rec y2 y3 (IntKind.wrap .i8 (y4 + 1)))
      h1 h2 h3 0)
    (K2)

def spec_l06Ok_l1 {R : Type} (k : Nat) (K1 : Bool → Option R) (K2 : Option R) (h1 : List Int) (h2 : List Int) (h3 : Int) : Option R :=
  loopF (fun (rec : (List Int) × (List Int) × Int → Option R) (p : (List Int) × (List Int) × Int) => spec_l06Ok_s1 k K1 K2 (fun h1 h2 h3 => rec (h1, h2, h3)) p.1 p.2.1 p.2.2) k (h1, h2, h3)

def spec_l06Ok (k : Nat) (a1 : List Int) (a2 : List Int) : Option (Bool) :=
  Option.bind (spec_l01Ok k a1) fun x1 =>
    cond (!x1)
      (some false)
      (spec_l06Ok_l1 k
        (fun y2 =>
          some y2)
        (some true)
        a1 a2 0)

def spec_l06Asked (k : Nat) (a1 : List Int) (a2 : List Int) (a3 : Bool) : Option (Int) :=
  Option.bind (spec_l06Ok k a1 a2) fun x1 =>
    cond (!x1)
      (some 1)
      (cond (!a3)
        (some 2)
        (some 0))

def spec_l01All_s0 {R : Type} (k : Nat) (K1 : (List Int) → Int → (List Int) → Option R) (rec : (List Int) → Int → Int → (List Int) → Option R) (h1 : List Int) (h2 : Int) (h3 : Int) (h4 : List Int) : Option R :=
  cond (decide (h3 < (rd h1 0)))
    (cond (decide (h4.length + 2 ≤ bigLen))
      (rec h1 h2 (IntKind.wrap .i8 (h3 + 1)) (h4 ++ [h3, h2]))
      none)
    (K1 h1 h2 h4)

def spec_l01All_l0 {R : Type} (k : Nat) (K1 : (List Int) → Int → (List Int) → Option R) (h1 : List Int) (h2 : Int) (h3 : Int) (h4 : List Int) : Option R :=
  loopF (fun (rec : (List Int) × Int × Int × (List Int) → Option R) (p : (List Int) × Int × Int × (List Int)) => spec_l01All_s0 k K1 (fun h1 h2 h3 h4 => rec (h1, h2, h3, h4)) p.1 p.2.1 p.2.2.1 p.2.2.2) k (h1, h2, h3, h4)

def spec_l01All_s1 {R : Type} (k : Nat) (K1 : (List Int) → Option R) (rec : (List Int) → Int → (List Int) → Option R) (h1 : List Int) (h2 : Int) (h3 : List Int) : Option R :=
  cond (decide (h2 < (rd h1 1)))
    (spec_l01All_l0 k
      (fun y1 y2 y3 =>
        rec y1 (IntKind.wrap .i8 (y2 + 1)) y3)
      h1 h2 0 h3)
    (K1 h3)

def spec_l01All_l1 {R : Type} (k : Nat) (K1 : (List Int) → Option R) (h1 : List Int) (h2 : Int) (h3 : List Int) : Option R :=
  loopF (fun (rec : (List Int) × Int × (List Int) → Option R) (p : (List Int) × Int × (List Int)) => spec_l01All_s1 k K1 (fun h1 h2 h3 => rec (h1, h2, h3)) p.1 p.2.1 p.2.2) k (h1, h2, h3)

def spec_l01All (k : Nat) (a1 : List Int) : Option ((List Int)) :=
  spec_l01All_l1 k
    (fun y1 =>
      some y1)
    a1 0 []

def spec_l01Cells_s0 {R : Type} (k : Nat) (K1 : (List Int) → Option R) (rec : (List Int) → Int → Int → (List Int) → (List Int) → Option R) (h1 : List Int) (h2 : Int) (h3 : Int) (h4 : List Int) (h5 : List Int) : Option R :=
  cond (decide (h3 < ((cnt 2 h5) : Int)))
    (cond ((decide (0 ≤ h3)) && (decide (h3 < ((cnt 2 h5) : Int))))
      (Option.bind (spec_l01At k h1 [(rd h5 (h3.toNat * 2)), (rd h5 ((h3.toNat * 2) + 1))]) fun x1 =>
        cond (x1 == h2)
          (cond ((decide (0 ≤ h3)) && (decide (h3 < ((cnt 2 h5) : Int))))
            (cond (decide (h4.length + 2 ≤ bigLen))
              (rec h1 h2 (IntKind.wrap .i64 (h3 + 1)) (h4 ++ [(rd h5 (h3.toNat * 2)), (rd h5 ((h3.toNat * 2) + 1))]) h5)
              none)
            none)
          (rec h1 h2 (IntKind.wrap .i64 (h3 + 1)) h4 h5))
      none)
    (K1 h4)

def spec_l01Cells_l0 {R : Type} (k : Nat) (K1 : (List Int) → Option R) (h1 : List Int) (h2 : Int) (h3 : Int) (h4 : List Int) (h5 : List Int) : Option R :=
  loopF (fun (rec : (List Int) × Int × Int × (List Int) × (List Int) → Option R) (p : (List Int) × Int × Int × (List Int) × (List Int)) => spec_l01Cells_s0 k K1 (fun h1 h2 h3 h4 h5 => rec (h1, h2, h3, h4, h5)) p.1 p.2.1 p.2.2.1 p.2.2.2.1 p.2.2.2.2) k (h1, h2, h3, h4, h5)

def spec_l01Cells (k : Nat) (a1 : List Int) (a2 : Int) : Option ((List Int)) :=
  Option.bind (spec_l01All k a1) fun x1 =>
    spec_l01Cells_l0 k
      (fun y2 =>
        some y2)
      a1 a2 0 [] x1

def spec_l06At (k : Nat) (a1 : List Int) (a2 : List Int) : Option (Int) :=
  cond ((decide (0 ≤ (rd a2 1))) && (decide ((rd a2 1) < 10)))
    (cond ((decide (0 ≤ (rd a2 0))) && (decide ((rd a2 0) < 10)))
      (some (IntKind.wrap .i64 (rd a1 ((0 + (rd a2 1).toNat * 10) + (rd a2 0).toNat * 1))))
      none)
    none

def spec_l00Max (k : Nat) (a1 : Int) (a2 : Int) : Option (Int) :=
  cond (decide (a1 > a2))
    (some a1)
    (some a2)

def spec_l06Far (k : Nat) (a1 : List Int) (a2 : List Int) (a3 : List Int) : Option (Int) :=
  Option.bind (spec_l06At k a1 [(rd a2 0), (rd a2 1)]) fun x1 =>
    Option.bind (spec_l06At k a1 [(rd a3 0), (rd a3 1)]) fun x2 =>
      Option.bind (spec_l00Max k (IntKind.wrap .i64 (x1 - x2)) (IntKind.wrap .i64 (0 - (IntKind.wrap .i64 (x1 - x2))))) fun x3 =>
        some x3

def spec_SteepSteps_s0 {R : Type} (k : Nat) (K1 : Int → Option R) (rec : Int → Int → Int → (List Int) → (List Int) → (List Int) → Option R) (h1 : Int) (h2 : Int) (h3 : Int) (h4 : List Int) (h5 : List Int) (h6 : List Int) : Option R :=
  cond (decide (h3 < ((cnt 2 h6) : Int)))
    (cond ((decide (0 ≤ h3)) && (decide (h3 < ((cnt 2 h6) : Int))))
      (cond ((decide (0 ≤ h3)) && (decide (h3 < ((cnt 2 h6) : Int))))
        (cond ((decide (0 ≤ h3)) && (decide (h3 < ((cnt 2 h6) : Int))))
          (cond ((decide (0 ≤ h3)) && (decide (h3 < ((cnt 2 h6) : Int))))
            (Option.bind (spec_l01Grass k h4 [(IntKind.wrap .i8 ((rd h6 (h3.toNat * 2)) + 1)), (rd h6 ((h3.toNat * 2) + 1))]) fun x1 =>
              cond x1
                (cond ((decide (0 ≤ h3)) && (decide (h3 < ((cnt 2 h6) : Int))))
                  (Option.bind (spec_l06Far k h5 [(rd h6 (h3.toNat * 2)), (rd h6 ((h3.toNat * 2) + 1))] [(IntKind.wrap .i8 ((rd h6 (h3.toNat * 2)) + 1)), (rd h6 ((h3.toNat * 2) + 1))]) fun x2 =>
                    cond (decide (x2 > h1))
                      (Option.bind (spec_l01Grass k h4 [(rd h6 (h3.toNat * 2)), (IntKind.wrap .i8 ((rd h6 ((h3.toNat * 2) + 1)) + 1))]) fun x3 =>
                        cond x3
                          (cond ((decide (0 ≤ h3)) && (decide (h3 < ((cnt 2 h6) : Int))))
                            (Option.bind (spec_l06Far k h5 [(rd h6 (h3.toNat * 2)), (rd h6 ((h3.toNat * 2) + 1))] [(rd h6 (h3.toNat * 2)), (IntKind.wrap .i8 ((rd h6 ((h3.toNat * 2) + 1)) + 1))]) fun x4 =>
                              cond (decide (x4 > h1))
                                (rec h1 (IntKind.wrap .i64 ((IntKind.wrap .i64 (h2 + 1)) + 1)) (IntKind.wrap .i64 (h3 + 1)) h4 h5 h6)
                                (rec h1 (IntKind.wrap .i64 (h2 + 1)) (IntKind.wrap .i64 (h3 + 1)) h4 h5 h6))
                            none)
                          (rec h1 (IntKind.wrap .i64 (h2 + 1)) (IntKind.wrap .i64 (h3 + 1)) h4 h5 h6))
                      (Option.bind (spec_l01Grass k h4 [(rd h6 (h3.toNat * 2)), (IntKind.wrap .i8 ((rd h6 ((h3.toNat * 2) + 1)) + 1))]) fun x5 =>
                        cond x5
                          (cond ((decide (0 ≤ h3)) && (decide (h3 < ((cnt 2 h6) : Int))))
                            (Option.bind (spec_l06Far k h5 [(rd h6 (h3.toNat * 2)), (rd h6 ((h3.toNat * 2) + 1))] [(rd h6 (h3.toNat * 2)), (IntKind.wrap .i8 ((rd h6 ((h3.toNat * 2) + 1)) + 1))]) fun x6 =>
                              cond (decide (x6 > h1))
                                (rec h1 (IntKind.wrap .i64 (h2 + 1)) (IntKind.wrap .i64 (h3 + 1)) h4 h5 h6)
                                (rec h1 h2 (IntKind.wrap .i64 (h3 + 1)) h4 h5 h6))
                            none)
                          (rec h1 h2 (IntKind.wrap .i64 (h3 + 1)) h4 h5 h6)))
                  none)
                (Option.bind (spec_l01Grass k h4 [(rd h6 (h3.toNat * 2)), (IntKind.wrap .i8 ((rd h6 ((h3.toNat * 2) + 1)) + 1))]) fun x7 =>
                  cond x7
                    (cond ((decide (0 ≤ h3)) && (decide (h3 < ((cnt 2 h6) : Int))))
                      (Option.bind (spec_l06Far k h5 [(rd h6 (h3.toNat * 2)), (rd h6 ((h3.toNat * 2) + 1))] [(rd h6 (h3.toNat * 2)), (IntKind.wrap .i8 ((rd h6 ((h3.toNat * 2) + 1)) + 1))]) fun x8 =>
                        cond (decide (x8 > h1))
                          (rec h1 (IntKind.wrap .i64 (h2 + 1)) (IntKind.wrap .i64 (h3 + 1)) h4 h5 h6)
                          (rec h1 h2 (IntKind.wrap .i64 (h3 + 1)) h4 h5 h6))
                      none)
                    (rec h1 h2 (IntKind.wrap .i64 (h3 + 1)) h4 h5 h6)))
            none)
          none)
        none)
      none)
    (K1 h2)

def spec_SteepSteps_l0 {R : Type} (k : Nat) (K1 : Int → Option R) (h1 : Int) (h2 : Int) (h3 : Int) (h4 : List Int) (h5 : List Int) (h6 : List Int) : Option R :=
  loopF (fun (rec : Int × Int × Int × (List Int) × (List Int) × (List Int) → Option R) (p : Int × Int × Int × (List Int) × (List Int) × (List Int)) => spec_SteepSteps_s0 k K1 (fun h1 h2 h3 h4 h5 h6 => rec (h1, h2, h3, h4, h5, h6)) p.1 p.2.1 p.2.2.1 p.2.2.2.1 p.2.2.2.2.1 p.2.2.2.2.2) k (h1, h2, h3, h4, h5, h6)

def spec_SteepSteps (k : Nat) (a1 : List Int) (a2 : List Int) (a3 : Int) : Option (Int × Int) :=
  Option.bind (spec_l00In k a3 0 18) fun x1 =>
    Option.bind (spec_l06Asked k a1 a2 x1) fun x2 =>
      cond (x2 != 0)
        (some (0, x2))
        (Option.bind (spec_l01Cells k a1 0) fun x3 =>
          spec_SteepSteps_l0 k
            (fun y4 =>
              some (y4, 0))
            a3 0 0 a1 a2 x3)

def impl_Lawn_has (k : Nat) (a1 : List Int) (a2 : List Int) : Option (Bool) :=
  cond (decide ((rd a2 0) ≥ 0))
    (cond (decide ((rd a2 0) < (rd a1 0)))
      (cond (decide ((rd a2 1) ≥ 0))
        (some (decide ((rd a2 1) < (rd a1 1))))
        (some false))
      (some false))
    (some false)

def impl_Lawn_kind (k : Nat) (a1 : List Int) (a2 : List Int) : Option (Int) :=
  cond ((decide (0 ≤ (rd a2 1))) && (decide ((rd a2 1) < 10)))
    (cond ((decide (0 ≤ (rd a2 0))) && (decide ((rd a2 0) < 10)))
      (some (IntKind.wrap .i64 (rd a1 ((2 + (rd a2 1).toNat * 10) + (rd a2 0).toNat * 1))))
      none)
    none

def impl_Lawn_is (k : Nat) (a1 : List Int) (a2 : List Int) (a3 : Int) : Option (Bool) :=
  Option.bind (impl_Lawn_has k a1 [(rd a2 0), (rd a2 1)]) fun x1 =>
    cond x1
      (Option.bind (impl_Lawn_kind k a1 [(rd a2 0), (rd a2 1)]) fun x2 =>
        some (x2 == a3))
      (some false)

def impl_Lawn_grass (k : Nat) (a1 : List Int) (a2 : List Int) : Option (Bool) :=
  Option.bind (impl_Lawn_is k a1 [(rd a2 0), (rd a2 1)] 0) fun x1 =>
    some x1

def impl_within (k : Nat) (a1 : Int) (a2 : Int) (a3 : Int) : Option (Bool) :=
  cond (decide (a2 ≤ a1))
    (some (decide (a1 ≤ a3)))
    (some false)

def impl_ValidLawn_s0 {R : Type} (k : Nat) (K1 : Bool → Option R) (K2 : Int → (List Int) → Option R) (rec : Int → Int → Int → (List Int) → Option R) (h1 : Int) (h2 : Int) (h3 : Int) (h4 : List Int) : Option R :=
  cond (decide (h3 < 10))
    (cond ((decide (0 ≤ h1)) && (decide (h1 < 10)))
      (cond ((decide (0 ≤ h3)) && (decide (h3 < 10)))
        (cond (decide ((rd h4 ((2 + h1.toNat * 10) + h3.toNat * 1)) > 3))
          (K1 false)
          (cond ((rd h4 ((2 + h1.toNat * 10) + h3.toNat * 1)) != 0)
            (Option.bind (impl_Lawn_has k h4 [h3, h1]) fun x1 =>
              cond (!x1)
                (K1 false)
                (rec h1 h2 (IntKind.wrap .i8 (h3 + 1)) h4))
            (rec h1 h2 (IntKind.wrap .i8 (h3 + 1)) h4)))
        none)
      none)
    (K2 h2 h4)

def impl_ValidLawn_l0 {R : Type} (k : Nat) (K1 : Bool → Option R) (K2 : Int → (List Int) → Option R) (h1 : Int) (h2 : Int) (h3 : Int) (h4 : List Int) : Option R :=
  loopF (fun (rec : Int × Int × Int × (List Int) → Option R) (p : Int × Int × Int × (List Int)) => impl_ValidLawn_s0 k K1 K2 (fun h1 h2 h3 h4 => rec (h1, h2, h3, h4)) p.1 p.2.1 p.2.2.1 p.2.2.2) k (h1, h2, h3, h4)

def impl_ValidLawn_s1 {R : Type} (k : Nat) (K1 : Bool → Option R) (K2 : Option R) (rec : Int → (List Int) → Option R) (h1 : Int) (h2 : List Int) : Option R :=
  cond (decide (h1 < 10))
    (impl_ValidLawn_l0 k
      (fun y1 =>
        K1 y1)
      (fun y2 y3 =>
        rec (IntKind.wrap .i8 (y2 + 1)) y3)
      h1 h1 0 h2)
    (K2)

def impl_ValidLawn_l1 {R : Type} (k : Nat) (K1 : Bool → Option R) (K2 : Option R) (h1 : Int) (h2 : List Int) : Option R :=
  loopF (fun (rec : Int × (List Int) → Option R) (p : Int × (List Int)) => impl_ValidLawn_s1 k K1 K2 (fun h1 h2 => rec (h1, h2)) p.1 p.2) k (h1, h2)

def impl_ValidLawn (k : Nat) (a1 : List Int) : Option (Bool) :=
  Option.bind (impl_within k (IntKind.wrap .i64 (rd a1 0)) 1 10) fun x1 =>
    cond (!x1)
      (some false)
      (Option.bind (impl_within k (IntKind.wrap .i64 (rd a1 1)) 1 10) fun x2 =>
        cond (!x2)
          (some false)
          (impl_ValidLawn_l1 k
            (fun y3 =>
              some y3)
            (some true)
            0 a1))

def impl_ValidLevels_s0 {R : Type} (k : Nat) (K1 : Bool → Option R) (K2 : Int → (List Int) → (List Int) → Option R) (rec : Int → Int → Int → (List Int) → (List Int) → Option R) (h1 : Int) (h2 : Int) (h3 : Int) (h4 : List Int) (h5 : List Int) : Option R :=
  cond (decide (h3 < 10))
    (cond ((decide (0 ≤ h1)) && (decide (h1 < 10)))
      (cond ((decide (0 ≤ h3)) && (decide (h3 < 10)))
        (cond (decide ((rd h5 ((0 + h1.toNat * 10) + h3.toNat * 1)) < (-9)))
          (K1 false)
          (cond (decide ((rd h5 ((0 + h1.toNat * 10) + h3.toNat * 1)) > 9))
            (K1 false)
            (cond ((rd h5 ((0 + h1.toNat * 10) + h3.toNat * 1)) != 0)
              (Option.bind (impl_Lawn_grass k h4 [h3, h1]) fun x1 =>
                cond (!x1)
                  (K1 false)
                  (rec h1 h2 (IntKind.wrap .i8 (h3 + 1)) h4 h5))
              (rec h1 h2 (IntKind.wrap .i8 (h3 + 1)) h4 h5))))
        none)
      none)
    (K2 h2 h4 h5)

def impl_ValidLevels_l0 {R : Type} (k : Nat) (K1 : Bool → Option R) (K2 : Int → (List Int) → (List Int) → Option R) (h1 : Int) (h2 : Int) (h3 : Int) (h4 : List Int) (h5 : List Int) : Option R :=
  loopF (fun (rec : Int × Int × Int × (List Int) × (List Int) → Option R) (p : Int × Int × Int × (List Int) × (List Int)) => impl_ValidLevels_s0 k K1 K2 (fun h1 h2 h3 h4 h5 => rec (h1, h2, h3, h4, h5)) p.1 p.2.1 p.2.2.1 p.2.2.2.1 p.2.2.2.2) k (h1, h2, h3, h4, h5)

def impl_ValidLevels_s1 {R : Type} (k : Nat) (K1 : Bool → Option R) (K2 : (List Int) → Option R) (rec : Int → (List Int) → (List Int) → Option R) (h1 : Int) (h2 : List Int) (h3 : List Int) : Option R :=
  cond (decide (h1 < 10))
    (impl_ValidLevels_l0 k
      (fun y1 =>
        K1 y1)
      (fun y2 y3 y4 =>
        rec (IntKind.wrap .i8 (y2 + 1)) y3 y4)
      h1 h1 0 h2 h3)
    (K2 h2)

def impl_ValidLevels_l1 {R : Type} (k : Nat) (K1 : Bool → Option R) (K2 : (List Int) → Option R) (h1 : Int) (h2 : List Int) (h3 : List Int) : Option R :=
  loopF (fun (rec : Int × (List Int) × (List Int) → Option R) (p : Int × (List Int) × (List Int)) => impl_ValidLevels_s1 k K1 K2 (fun h1 h2 h3 => rec (h1, h2, h3)) p.1 p.2.1 p.2.2) k (h1, h2, h3)

def impl_ValidLevels (k : Nat) (a1 : List Int) (a2 : List Int) : Option (Bool) :=
  impl_ValidLevels_l1 k
    (fun y1 =>
      some y1)
    (fun y2 =>
      Option.bind (impl_ValidLawn k y2) fun x3 =>
        some x3)
    0 a1 a2

def impl_cellsCode_1 (k : Nat) (a1 : List Int) (a2 : List Int) : Option (Bool) :=
  Option.bind (impl_Lawn_has k a2 [(rd a1 0), (rd a1 1)]) fun x1 =>
    some (!x1)

def slices_IndexFunc_impl_Cell_s0 {R : Type} (k : Nat) (K1 : Int → Option R) (K2 : Option R) (rec : (List Int) → (List Int → Option Bool) → Int → Int → Option R) (h1 : List Int) (h2 : List Int → Option Bool) (h3 : Int) (h4 : Int) : Option R :=
  cond (decide (h4 < h3))
    (cond ((decide (0 ≤ h4)) && (decide (h4 < ((cnt 2 h1) : Int))))
      (Option.bind (h2 [(rd h1 (h4.toNat * 2)), (rd h1 ((h4.toNat * 2) + 1))]) fun x1 =>
        cond x1
          (K1 h4)
          (rec h1 h2 h3 (IntKind.wrap .i64 (h4 + 1))))
      none)
    (K2)

def slices_IndexFunc_impl_Cell_l0 {R : Type} (k : Nat) (K1 : Int → Option R) (K2 : Option R) (h1 : List Int) (h2 : List Int → Option Bool) (h3 : Int) (h4 : Int) : Option R :=
  loopF (fun (rec : (List Int) × (List Int → Option Bool) × Int × Int → Option R) (p : (List Int) × (List Int → Option Bool) × Int × Int) => slices_IndexFunc_impl_Cell_s0 k K1 K2 (fun h1 h2 h3 h4 => rec (h1, h2, h3, h4)) p.1 p.2.1 p.2.2.1 p.2.2.2) k (h1, h2, h3, h4)

def slices_IndexFunc_impl_Cell (k : Nat) (a1 : List Int) (a2 : List Int → Option Bool) : Option (Int) :=
  slices_IndexFunc_impl_Cell_l0 k
    (fun y1 =>
      some y1)
    (some (-1))
    a1 a2 ((cnt 2 a1) : Int) 0

def slices_ContainsFunc_impl_Cell (k : Nat) (a1 : List Int) (a2 : List Int → Option Bool) : Option (Bool) :=
  Option.bind (slices_IndexFunc_impl_Cell k a1 a2) fun x1 =>
    some (decide (x1 ≥ 0))

def impl_cellsCode (k : Nat) (a1 : List Int) (a2 : List Int) : Option (Int) :=
  Option.bind (impl_ValidLawn k a1) fun x1 =>
    cond (!x1)
      (some 1)
      (Option.bind (slices_ContainsFunc_impl_Cell k a2 (fun z2 => (impl_cellsCode_1 k [(rd z2 0), (rd z2 1)] a1).bind fun b => some b)) fun x3 =>
        cond x3
          (some 2)
          (some 0))

def impl_soilCode (k : Nat) (a1 : List Int) (a2 : List Int) (a3 : List Int) : Option (Int) :=
  Option.bind (impl_ValidLevels k a1 a2) fun x1 =>
    cond (!x1)
      (some 1)
      (Option.bind (impl_cellsCode k a1 a3) fun x2 =>
        some x2)

def impl_Lawn_all_s0 {R : Type} (k : Nat) (K1 : Int → Int → (List Int) → (List Int) → Option R) (rec : Int → Int → Int → Int → Int → (List Int) → (List Int) → Option R) (h1 : Int) (h2 : Int) (h3 : Int) (h4 : Int) (h5 : Int) (h6 : List Int) (h7 : List Int) : Option R :=
  cond (decide (h5 < h4))
    (cond (decide (h7.length + 2 ≤ bigLen))
      (rec h1 h2 h3 h4 (IntKind.wrap .i8 (h5 + 1)) h6 (h7 ++ [h5, h1]))
      none)
    (K1 h2 h3 h6 h7)

def impl_Lawn_all_l0 {R : Type} (k : Nat) (K1 : Int → Int → (List Int) → (List Int) → Option R) (h1 : Int) (h2 : Int) (h3 : Int) (h4 : Int) (h5 : Int) (h6 : List Int) (h7 : List Int) : Option R :=
  loopF (fun (rec : Int × Int × Int × Int × Int × (List Int) × (List Int) → Option R) (p : Int × Int × Int × Int × Int × (List Int) × (List Int)) => impl_Lawn_all_s0 k K1 (fun h1 h2 h3 h4 h5 h6 h7 => rec (h1, h2, h3, h4, h5, h6, h7)) p.1 p.2.1 p.2.2.1 p.2.2.2.1 p.2.2.2.2.1 p.2.2.2.2.2.1 p.2.2.2.2.2.2) k (h1, h2, h3, h4, h5, h6, h7)

def impl_Lawn_all_s1 {R : Type} (k : Nat) (K1 : (List Int) → Option R) (rec : Int → Int → (List Int) → (List Int) → Option R) (h1 : Int) (h2 : Int) (h3 : List Int) (h4 : List Int) : Option R :=
  cond (decide (h2 < h1))
    (impl_Lawn_all_l0 k
      (fun y1 y2 y3 y4 =>
        rec y1 (IntKind.wrap .i8 (y2 + 1)) y3 y4)
      h2 h1 h2 (rd h3 0) 0 h3 h4)
    (K1 h4)

def impl_Lawn_all_l1 {R : Type} (k : Nat) (K1 : (List Int) → Option R) (h1 : Int) (h2 : Int) (h3 : List Int) (h4 : List Int) : Option R :=
  loopF (fun (rec : Int × Int × (List Int) × (List Int) → Option R) (p : Int × Int × (List Int) × (List Int)) => impl_Lawn_all_s1 k K1 (fun h1 h2 h3 h4 => rec (h1, h2, h3, h4)) p.1 p.2.1 p.2.2.1 p.2.2.2) k (h1, h2, h3, h4)

def impl_Lawn_all (k : Nat) (a1 : List Int) : Option ((List Int)) :=
  impl_Lawn_all_l1 k
    (fun y1 =>
      some y1)
    (rd a1 1) 0 a1 []

def impl_Lawn_those_1 (k : Nat) (a1 : List Int) (a2 : List Int → Option Bool) : Option (Bool) :=
  Option.bind (a2 [(rd a1 0), (rd a1 1)]) fun x1 =>
    some (!x1)

def slices_DeleteFunc_impl_Cell_s0 {R : Type} (k : Nat) (K1 : Int → (List Int) → Option R) (rec : (List Int → Option Bool) → Int → Int → (List Int) → Option R) (h1 : List Int → Option Bool) (h2 : Int) (h3 : Int) (h4 : List Int) : Option R :=
  cond (decide (h3 < ((cnt 2 h4) : Int)))
    (cond ((decide (0 ≤ h3)) && (decide (h3 < ((cnt 2 h4) : Int))))
      (Option.bind (h1 [(rd h4 (h3.toNat * 2)), (rd h4 ((h3.toNat * 2) + 1))]) fun x1 =>
        cond (!x1)
          (cond ((decide (0 ≤ h2)) && (decide (h2 < ((cnt 2 h4) : Int))))
            (rec h1 (IntKind.wrap .i64 (h2 + 1)) (IntKind.wrap .i64 (h3 + 1)) (setWin h4 (h2.toNat * 2) 2 [(rd h4 (h3.toNat * 2)), (rd h4 ((h3.toNat * 2) + 1))]))
            none)
          (rec h1 h2 (IntKind.wrap .i64 (h3 + 1)) h4))
      none)
    (K1 h2 h4)

def slices_DeleteFunc_impl_Cell_l0 {R : Type} (k : Nat) (K1 : Int → (List Int) → Option R) (h1 : List Int → Option Bool) (h2 : Int) (h3 : Int) (h4 : List Int) : Option R :=
  loopF (fun (rec : (List Int → Option Bool) × Int × Int × (List Int) → Option R) (p : (List Int → Option Bool) × Int × Int × (List Int)) => slices_DeleteFunc_impl_Cell_s0 k K1 (fun h1 h2 h3 h4 => rec (h1, h2, h3, h4)) p.1 p.2.1 p.2.2.1 p.2.2.2) k (h1, h2, h3, h4)

def slices_DeleteFunc_impl_Cell (k : Nat) (a1 : List Int) (a2 : List Int → Option Bool) : Option ((List Int)) :=
  Option.bind (slices_IndexFunc_impl_Cell k a1 a2) fun x1 =>
    cond (x1 == (-1))
      (some a1)
      (slices_DeleteFunc_impl_Cell_l0 k
        (fun y2 y3 =>
          cond ((decide (0 ≤ y2)) && (decide (y2 ≤ ((cnt 2 y3) : Int))))
            (cond ((decide (0 ≤ y2)) && (decide (y2 ≤ (((cnt 2 (setWin y3 (y2.toNat * 2) (((cnt 2 y3) - y2.toNat) * 2) (List.replicate (((cnt 2 y3) - y2.toNat) * 2) 0))) : Nat) : Int))))
              (some (win (setWin y3 (y2.toNat * 2) (((cnt 2 y3) - y2.toNat) * 2) (List.replicate (((cnt 2 y3) - y2.toNat) * 2) 0)) 0 (y2.toNat * 2)))
              none)
            none)
        a2 x1 (IntKind.wrap .i64 (x1 + 1)) a1)

def impl_Lawn_those (k : Nat) (a1 : List Int) (a2 : List Int → Option Bool) : Option ((List Int)) :=
  Option.bind (impl_Lawn_all k a1) fun x1 =>
    Option.bind (slices_DeleteFunc_impl_Cell k x1 (fun z2 => (impl_Lawn_those_1 k [(rd z2 0), (rd z2 1)] a2).bind fun b => some b)) fun x3 =>
      some x3

def impl_beside (k : Nat) (a1 : List Int) : Option ((List Int)) :=
  some [(rd a1 0), (IntKind.wrap .i8 ((rd a1 1) - 1)), (IntKind.wrap .i8 ((rd a1 0) - 1)), (rd a1 1), (IntKind.wrap .i8 ((rd a1 0) + 1)), (rd a1 1), (rd a1 0), (IntKind.wrap .i8 ((rd a1 1) + 1))]

def impl_Levels_of (k : Nat) (a1 : List Int) (a2 : List Int) : Option (Int) :=
  cond ((decide (0 ≤ (rd a2 1))) && (decide ((rd a2 1) < 10)))
    (cond ((decide (0 ≤ (rd a2 0))) && (decide ((rd a2 0) < 10)))
      (some (IntKind.wrap .i64 (rd a1 ((0 + (rd a2 1).toNat * 10) + (rd a2 0).toNat * 1))))
      none)
    none

def impl_SteepSteps_s0 {R : Type} (k : Nat) (K1 : Int → Int → Int → Int → (List Int) → (List Int) → (List Int) → Option R) (rec : Int → Int → Int → Int → Int → Int → (List Int) → (List Int) → (List Int) → (List Int) → (List Int) → Option R) (h1 : Int) (h2 : Int) (h3 : Int) (h4 : Int) (h5 : Int) (h6 : Int) (h7 : List Int) (h8 : List Int) (h9 : List Int) (h10 : List Int) (h11 : List Int) : Option R :=
  cond (decide (h6 < h5))
    (cond ((decide (0 ≤ h6)) && (decide (h6 < ((cnt 2 h11) : Int))))
      (Option.bind (impl_Lawn_grass k h7 [(rd h11 (h6.toNat * 2)), (rd h11 ((h6.toNat * 2) + 1))]) fun x1 =>
        cond x1
          (Option.bind (impl_Levels_of k h8 [(rd h9 0), (rd h9 1)]) fun x2 =>
            Option.bind (impl_Levels_of k h8 [(rd h11 (h6.toNat * 2)), (rd h11 ((h6.toNat * 2) + 1))]) fun x3 =>
              Option.bind (impl_Levels_of k h8 [(rd h11 (h6.toNat * 2)), (rd h11 ((h6.toNat * 2) + 1))]) fun x4 =>
                Option.bind (impl_Levels_of k h8 [(rd h9 0), (rd h9 1)]) fun x5 =>
                  cond (decide ((maxI (IntKind.wrap .i64 (x2 - x3)) (IntKind.wrap .i64 (x4 - x5))) > h1))
                    (rec h1 (IntKind.wrap .i64 (h2 + 1)) h3 h4 h5 (IntKind.wrap .i64 (h6 + 1)) h7 h8 h9 h10 h11)
                    (rec h1 h2 h3 h4 h5 (IntKind.wrap .i64 (h6 + 1)) h7 h8 h9 h10 h11))
          (rec h1 h2 h3 h4 h5 (IntKind.wrap .i64 (h6 + 1)) h7 h8 h9 h10 h11))
      none)
    (K1 h1 h2 h3 h4 h7 h8 h10)

def impl_SteepSteps_l0 {R : Type} (k : Nat) (K1 : Int → Int → Int → Int → (List Int) → (List Int) → (List Int) → Option R) (h1 : Int) (h2 : Int) (h3 : Int) (h4 : Int) (h5 : Int) (h6 : Int) (h7 : List Int) (h8 : List Int) (h9 : List Int) (h10 : List Int) (h11 : List Int) : Option R :=
  loopF (fun (rec : Int × Int × Int × Int × Int × Int × (List Int) × (List Int) × (List Int) × (List Int) × (List Int) → Option R) (p : Int × Int × Int × Int × Int × Int × (List Int) × (List Int) × (List Int) × (List Int) × (List Int)) => impl_SteepSteps_s0 k K1 (fun h1 h2 h3 h4 h5 h6 h7 h8 h9 h10 h11 => rec (h1, h2, h3, h4, h5, h6, h7, h8, h9, h10, h11)) p.1 p.2.1 p.2.2.1 p.2.2.2.1 p.2.2.2.2.1 p.2.2.2.2.2.1 p.2.2.2.2.2.2.1 p.2.2.2.2.2.2.2.1 p.2.2.2.2.2.2.2.2.1 p.2.2.2.2.2.2.2.2.2.1 p.2.2.2.2.2.2.2.2.2.2) k (h1, h2, h3, h4, h5, h6, h7, h8, h9, h10, h11)

def impl_SteepSteps_s1 {R : Type} (k : Nat) (K1 : Int → Option R) (rec : Int → Int → Int → Int → (List Int) → (List Int) → (List Int) → Option R) (h1 : Int) (h2 : Int) (h3 : Int) (h4 : Int) (h5 : List Int) (h6 : List Int) (h7 : List Int) : Option R :=
  cond (decide (h4 < h3))
    (cond ((decide (0 ≤ h4)) && (decide (h4 < ((cnt 2 h7) : Int))))
      (Option.bind (impl_beside k [(rd h7 (h4.toNat * 2)), (rd h7 ((h4.toNat * 2) + 1))]) fun x1 =>
        cond (decide (2 ≤ ((cnt 2 x1) : Int)))
          (impl_SteepSteps_l0 k
            (fun y2 y3 y4 y5 y6 y7 y8 =>
              rec y2 y3 y4 (IntKind.wrap .i64 (y5 + 1)) y6 y7 y8)
            h1 h2 h3 h4 ((((cnt 2 x1) - 2) : Nat) : Int) 0 h5 h6 [(rd h7 (h4.toNat * 2)), (rd h7 ((h4.toNat * 2) + 1))] h7 (win x1 4 (((cnt 2 x1) - 2) * 2)))
          none)
      none)
    (K1 h2)

def impl_SteepSteps_l1 {R : Type} (k : Nat) (K1 : Int → Option R) (h1 : Int) (h2 : Int) (h3 : Int) (h4 : Int) (h5 : List Int) (h6 : List Int) (h7 : List Int) : Option R :=
  loopF (fun (rec : Int × Int × Int × Int × (List Int) × (List Int) × (List Int) → Option R) (p : Int × Int × Int × Int × (List Int) × (List Int) × (List Int)) => impl_SteepSteps_s1 k K1 (fun h1 h2 h3 h4 h5 h6 h7 => rec (h1, h2, h3, h4, h5, h6, h7)) p.1 p.2.1 p.2.2.1 p.2.2.2.1 p.2.2.2.2.1 p.2.2.2.2.2.1 p.2.2.2.2.2.2) k (h1, h2, h3, h4, h5, h6, h7)

def impl_SteepSteps (k : Nat) (a1 : List Int) (a2 : List Int) (a3 : Int) : Option (Int × Int) :=
  Option.bind (impl_soilCode k a1 a2 []) fun x1 =>
    cond (x1 == 0)
      (Option.bind (impl_within k a3 0 18) fun x2 =>
        cond (!x2)
          (some (0, 2))
          (cond (x1 != 0)
            (some (0, x1))
            (Option.bind (impl_Lawn_those k a1 (fun z3 => (impl_Lawn_grass k a1 [(rd z3 0), (rd z3 1)]).bind fun b => some b)) fun x4 =>
              impl_SteepSteps_l1 k
                (fun y5 =>
                  some (y5, 0))
                a3 0 ((cnt 2 x4) : Int) 0 a1 a2 x4)))
      (cond (x1 != 0)
        (some (0, x1))
        (Option.bind (impl_Lawn_those k a1 (fun z6 => (impl_Lawn_grass k a1 [(rd z6 0), (rd z6 1)]).bind fun b => some b)) fun x7 =>
          impl_SteepSteps_l1 k
            (fun y8 =>
              some (y8, 0))
            a3 0 ((cnt 2 x7) : Int) 0 a1 a2 x7))

def laws_FnExactSteepSteps (k : Nat) (a1 : List Int) (a2 : List Int) (a3 : Int) : Option (Bool) :=
  Option.bind (laws_toLawn k a1) fun x1 =>
    Option.bind (laws_toLevels k a2) fun x2 =>
      Option.bind (spec_SteepSteps k x1 x2 a3) fun x3 =>
        Option.bind (laws_toLawn k a1) fun x4 =>
          Option.bind (laws_toLevels k a2) fun x5 =>
            Option.bind (impl_SteepSteps k x4 x5 a3) fun x6 =>
              cond (x6.1 != x3.1)
                (some false)
                (cond (x6.2 != x3.2)
                  (some false)
                  (some true))

def laws_toWear_s0 {R : Type} (k : Nat) (K1 : (List Int) → (List Int) → Option R) (rec : Int → (List Int) → (List Int) → (List Int) → Option R) (h1 : Int) (h2 : List Int) (h3 : List Int) (h4 : List Int) : Option R :=
  cond (decide (h1 < 5))
    (cond ((decide (0 ≤ h1)) && (decide (h1 < 5)))
      (cond ((decide (0 ≤ h1)) && (decide (h1 < 5)))
        (rec (IntKind.wrap .i64 (h1 + 1)) h2 h3 (List.set h4 (0 + h1.toNat * 1) (rd h2 (0 + h1.toNat * 1))))
        none)
      none)
    (K1 h3 h4)

def laws_toWear_l0 {R : Type} (k : Nat) (K1 : (List Int) → (List Int) → Option R) (h1 : Int) (h2 : List Int) (h3 : List Int) (h4 : List Int) : Option R :=
  loopF (fun (rec : Int × (List Int) × (List Int) × (List Int) → Option R) (p : Int × (List Int) × (List Int) × (List Int)) => laws_toWear_s0 k K1 (fun h1 h2 h3 h4 => rec (h1, h2, h3, h4)) p.1 p.2.1 p.2.2.1 p.2.2.2) k (h1, h2, h3, h4)

def laws_toWear (k : Nat) (a1 : List Int) : Option ((List Int)) :=
  laws_toWear_l0 k
    (fun y1 y2 =>
      some [(rd y2 0), (rd y2 1), (rd y2 2), (rd y2 3), (rd y2 4)])
    0 a1 [0, 0, 0, 0, 0] [0, 0, 0, 0, 0]

def spec_l05Wear_s0 {R : Type} (k : Nat) (K1 : Bool → Option R) (K2 : (List Int) → Option R) (rec : (List Int) → Int → Option R) (h1 : List Int) (h2 : Int) : Option R :=
  cond (decide (h2 < 5))
    (cond ((decide (0 ≤ h2)) && (decide (h2 < 5)))
      (Option.bind (spec_l00In k (IntKind.wrap .i64 (rd h1 (0 + h2.toNat * 1))) 0 100) fun x1 =>
        cond (!x1)
          (K1 false)
          (rec h1 (IntKind.wrap .i64 (h2 + 1))))
      none)
    (K2 h1)

def spec_l05Wear_l0 {R : Type} (k : Nat) (K1 : Bool → Option R) (K2 : (List Int) → Option R) (h1 : List Int) (h2 : Int) : Option R :=
  loopF (fun (rec : (List Int) × Int → Option R) (p : (List Int) × Int) => spec_l05Wear_s0 k K1 K2 (fun h1 h2 => rec (h1, h2)) p.1 p.2) k (h1, h2)

def spec_l05Wear (k : Nat) (a1 : List Int) : Option (Bool) :=
  spec_l05Wear_l0 k
    (fun y1 =>
      some y1)
    (fun y2 =>
      some ((rd y2 0) == 0))
    a1 0

def spec_l05Line (k : Nat) (a1 : Int) : Option (Bool) :=
  Option.bind (spec_l00In k a1 1 5000) fun x1 =>
    some x1

def spec_l05Near (k : Nat) (a1 : List Int) : Option ((List Int)) :=
  some [(rd a1 0), (IntKind.wrap .i8 ((rd a1 1) - 1)), (IntKind.wrap .i8 ((rd a1 0) - 1)), (rd a1 1), (IntKind.wrap .i8 ((rd a1 0) + 1)), (rd a1 1), (rd a1 0), (IntKind.wrap .i8 ((rd a1 1) + 1))]

def spec_l05At_s0 {R : Type} (k : Nat) (K1 : (List Int) → (List Int) → Option R) (rec : (List Int) → Int → (List Int) → (List Int) → (List Int) → Option R) (h1 : List Int) (h2 : Int) (h3 : List Int) (h4 : List Int) (h5 : List Int) : Option R :=
  cond (decide (h2 < ((cnt 2 h5) : Int)))
    (cond ((decide (0 ≤ h2)) && (decide (h2 < ((cnt 2 h5) : Int))))
      (Option.bind (spec_l01Is k h1 [(rd h5 (h2.toNat * 2)), (rd h5 ((h2.toNat * 2) + 1))]) fun x1 =>
        cond x1
          (cond ((decide (0 ≤ h2)) && (decide (h2 < ((cnt 2 h5) : Int))))
            (Option.bind (spec_l01At k h1 [(rd h5 (h2.toNat * 2)), (rd h5 ((h2.toNat * 2) + 1))]) fun x2 =>
              cond ((decide (0 ≤ x2)) && (decide (x2 < 5)))
                (cond ((decide (0 ≤ x2)) && (decide (x2 < 5)))
                  (rec h1 (IntKind.wrap .i64 (h2 + 1)) h3 (List.set h4 (0 + x2.toNat * 1) (IntKind.wrap .i64 ((rd h4 (0 + x2.toNat * 1)) + 1))) h5)
                  none)
                none)
            none)
          (rec h1 (IntKind.wrap .i64 (h2 + 1)) h3 (List.set h4 4 (IntKind.wrap .i64 ((rd h4 4) + 1))) h5))
      none)
    (K1 h3 h4)

def spec_l05At_l0 {R : Type} (k : Nat) (K1 : (List Int) → (List Int) → Option R) (h1 : List Int) (h2 : Int) (h3 : List Int) (h4 : List Int) (h5 : List Int) : Option R :=
  loopF (fun (rec : (List Int) × Int × (List Int) × (List Int) × (List Int) → Option R) (p : (List Int) × Int × (List Int) × (List Int) × (List Int)) => spec_l05At_s0 k K1 (fun h1 h2 h3 h4 h5 => rec (h1, h2, h3, h4, h5)) p.1 p.2.1 p.2.2.1 p.2.2.2.1 p.2.2.2.2) k (h1, h2, h3, h4, h5)

def spec_l05At (k : Nat) (a1 : List Int) (a2 : List Int) : Option ((List Int)) :=
  Option.bind (spec_l05Near k [(rd a2 0), (rd a2 1)]) fun x1 =>
    spec_l05At_l0 k
      (fun y2 y3 =>
        some [(rd y3 0), (rd y3 1), (rd y3 2), (rd y3 3), (rd y3 4)])
      a1 0 [0, 0, 0, 0, 0] [0, 0, 0, 0, 0] x1

def spec_l05All_s0 {R : Type} (k : Nat) (K1 : (List Int) → Int → (List Int) → (List Int) → (List Int) → Option R) (rec : (List Int) → Int → Int → (List Int) → (List Int) → (List Int) → (List Int) → Option R) (h1 : List Int) (h2 : Int) (h3 : Int) (h4 : List Int) (h5 : List Int) (h6 : List Int) (h7 : List Int) : Option R :=
  cond (decide (h3 < 5))
    (cond ((decide (0 ≤ h3)) && (decide (h3 < 5)))
      (cond ((decide (0 ≤ h3)) && (decide (h3 < 5)))
        (cond ((decide (0 ≤ h3)) && (decide (h3 < 5)))
          (rec h1 h2 (IntKind.wrap .i64 (h3 + 1)) h4 (List.set h5 (0 + h3.toNat * 1) (IntKind.wrap .i64 ((rd h5 (0 + h3.toNat * 1)) + (rd h7 (0 + h3.toNat * 1))))) h6 h7)
          none)
        none)
      none)
    (K1 h1 h2 h4 h5 h6)

def spec_l05All_l0 {R : Type} (k : Nat) (K1 : (List Int) → Int → (List Int) → (List Int) → (List Int) → Option R) (h1 : List Int) (h2 : Int) (h3 : Int) (h4 : List Int) (h5 : List Int) (h6 : List Int) (h7 : List Int) : Option R :=
  loopF (fun (rec : (List Int) × Int × Int × (List Int) × (List Int) × (List Int) × (List Int) → Option R) (p : (List Int) × Int × Int × (List Int) × (List Int) × (List Int) × (List Int)) => spec_l05All_s0 k K1 (fun h1 h2 h3 h4 h5 h6 h7 => rec (h1, h2, h3, h4, h5, h6, h7)) p.1 p.2.1 p.2.2.1 p.2.2.2.1 p.2.2.2.2.1 p.2.2.2.2.2.1 p.2.2.2.2.2.2) k (h1, h2, h3, h4, h5, h6, h7)

def spec_l05All_s1 {R : Type} (k : Nat) (K1 : (List Int) → (List Int) → Option R) (rec : (List Int) → Int → (List Int) → (List Int) → (List Int) → Option R) (h1 : List Int) (h2 : Int) (h3 : List Int) (h4 : List Int) (h5 : List Int) : Option R :=
  cond (decide (h2 < ((cnt 2 h5) : Int)))
    (cond ((decide (0 ≤ h2)) && (decide (h2 < ((cnt 2 h5) : Int))))
      (Option.bind (spec_l05At k h1 [(rd h5 (h2.toNat * 2)), (rd h5 ((h2.toNat * 2) + 1))]) fun x1 =>
        spec_l05All_l0 k
          (fun y2 y3 y4 y5 y6 =>
            rec y2 (IntKind.wrap .i64 (y3 + 1)) y4 y5 y6)
          h1 h2 0 h3 h4 h5 x1)
      none)
    (K1 h3 h4)

def spec_l05All_l1 {R : Type} (k : Nat) (K1 : (List Int) → (List Int) → Option R) (h1 : List Int) (h2 : Int) (h3 : List Int) (h4 : List Int) (h5 : List Int) : Option R :=
  loopF (fun (rec : (List Int) × Int × (List Int) × (List Int) × (List Int) → Option R) (p : (List Int) × Int × (List Int) × (List Int) × (List Int)) => spec_l05All_s1 k K1 (fun h1 h2 h3 h4 h5 => rec (h1, h2, h3, h4, h5)) p.1 p.2.1 p.2.2.1 p.2.2.2.1 p.2.2.2.2) k (h1, h2, h3, h4, h5)

def spec_l05All (k : Nat) (a1 : List Int) : Option ((List Int)) :=
  Option.bind (spec_l01Cells k a1 0) fun x1 =>
    spec_l05All_l1 k
      (fun y2 y3 =>
        some [(rd y3 0), (rd y3 1), (rd y3 2), (rd y3 3), (rd y3 4)])
      a1 0 [0, 0, 0, 0, 0] [0, 0, 0, 0, 0] x1

def spec_SpoolsFor_s0 {R : Type} (k : Nat) (K1 : Int → Int → Option R) (K2 : Int → (List Int) → (List Int) → Option R) (rec : Int → Int → (List Int) → (List Int) → Option R) (h1 : Int) (h2 : Int) (h3 : List Int) (h4 : List Int) : Option R :=
  cond (decide (h2 < 5))
    (cond ((decide (0 ≤ h2)) && (decide (h2 < 5)))
      (cond (decide ((rd h4 (0 + h2.toNat * 1)) > 0))
        (cond ((decide (0 ≤ h2)) && (decide (h2 < 5)))
          (cond (decide ((IntKind.wrap .i64 (rd h3 (0 + h2.toNat * 1))) > h1))
            (K1 0 6)
            (rec h1 (IntKind.wrap .i64 (h2 + 1)) h3 h4))
          none)
        (rec h1 (IntKind.wrap .i64 (h2 + 1)) h3 h4))
      none)
    (K2 h1 h3 h4)

def spec_SpoolsFor_l0 {R : Type} (k : Nat) (K1 : Int → Int → Option R) (K2 : Int → (List Int) → (List Int) → Option R) (h1 : Int) (h2 : Int) (h3 : List Int) (h4 : List Int) : Option R :=
  loopF (fun (rec : Int × Int × (List Int) × (List Int) → Option R) (p : Int × Int × (List Int) × (List Int)) => spec_SpoolsFor_s0 k K1 K2 (fun h1 h2 h3 h4 => rec (h1, h2, h3, h4)) p.1 p.2.1 p.2.2.1 p.2.2.2) k (h1, h2, h3, h4)

def spec_SpoolsFor_s1 {R : Type} (k : Nat) (K1 : Int → Int → Int → Int → (List Int) → (List Int) → Option R) (rec : Int → Int → Int → Int → Int → (List Int) → (List Int) → Option R) (h1 : Int) (h2 : Int) (h3 : Int) (h4 : Int) (h5 : Int) (h6 : List Int) (h7 : List Int) : Option R :=
  cond ((decide (0 ≤ h4)) && (decide (h4 < 5)))
    (cond (decide (h5 < (rd h7 (0 + h4.toNat * 1))))
      (cond ((decide (0 ≤ h4)) && (decide (h4 < 5)))
        (cond (decide ((IntKind.wrap .i64 (rd h6 (0 + h4.toNat * 1))) > h3))
          (cond ((decide (0 ≤ h4)) && (decide (h4 < 5)))
            (rec h1 (IntKind.wrap .i64 (h2 + 1)) (IntKind.wrap .i64 (h1 - (IntKind.wrap .i64 (rd h6 (0 + h4.toNat * 1))))) h4 (IntKind.wrap .i64 (h5 + 1)) h6 h7)
            none)
          (cond ((decide (0 ≤ h4)) && (decide (h4 < 5)))
            (rec h1 h2 (IntKind.wrap .i64 (h3 - (IntKind.wrap .i64 (rd h6 (0 + h4.toNat * 1))))) h4 (IntKind.wrap .i64 (h5 + 1)) h6 h7)
            none))
        none)
      (K1 h1 h2 h3 h4 h6 h7))
    none

def spec_SpoolsFor_l1 {R : Type} (k : Nat) (K1 : Int → Int → Int → Int → (List Int) → (List Int) → Option R) (h1 : Int) (h2 : Int) (h3 : Int) (h4 : Int) (h5 : Int) (h6 : List Int) (h7 : List Int) : Option R :=
  loopF (fun (rec : Int × Int × Int × Int × Int × (List Int) × (List Int) → Option R) (p : Int × Int × Int × Int × Int × (List Int) × (List Int)) => spec_SpoolsFor_s1 k K1 (fun h1 h2 h3 h4 h5 h6 h7 => rec (h1, h2, h3, h4, h5, h6, h7)) p.1 p.2.1 p.2.2.1 p.2.2.2.1 p.2.2.2.2.1 p.2.2.2.2.2.1 p.2.2.2.2.2.2) k (h1, h2, h3, h4, h5, h6, h7)

def spec_SpoolsFor_s2 {R : Type} (k : Nat) (K1 : Int → Option R) (rec : Int → Int → Int → Int → (List Int) → (List Int) → Option R) (h1 : Int) (h2 : Int) (h3 : Int) (h4 : Int) (h5 : List Int) (h6 : List Int) : Option R :=
  cond (decide (h4 < 5))
    (spec_SpoolsFor_l1 k
      (fun y1 y2 y3 y4 y5 y6 =>
        rec y1 y2 y3 (IntKind.wrap .i64 (y4 + 1)) y5 y6)
      h1 h2 h3 h4 0 h5 h6)
    (K1 h2)

def spec_SpoolsFor_l2 {R : Type} (k : Nat) (K1 : Int → Option R) (h1 : Int) (h2 : Int) (h3 : Int) (h4 : Int) (h5 : List Int) (h6 : List Int) : Option R :=
  loopF (fun (rec : Int × Int × Int × Int × (List Int) × (List Int) → Option R) (p : Int × Int × Int × Int × (List Int) × (List Int)) => spec_SpoolsFor_s2 k K1 (fun h1 h2 h3 h4 h5 h6 => rec (h1, h2, h3, h4, h5, h6)) p.1 p.2.1 p.2.2.1 p.2.2.2.1 p.2.2.2.2.1 p.2.2.2.2.2) k (h1, h2, h3, h4, h5, h6)

def spec_SpoolsFor (k : Nat) (a1 : List Int) (a2 : List Int) (a3 : Int) : Option (Int × Int) :=
  Option.bind (spec_l01Ok k a1) fun x1 =>
    cond (!x1)
      (some (0, 1))
      (Option.bind (spec_l05Wear k a2) fun x2 =>
        cond (!x2)
          (some (0, 1))
          (Option.bind (spec_l05Line k a3) fun x3 =>
            cond (!x3)
              (some (0, 2))
              (Option.bind (spec_l05All k a1) fun x4 =>
                spec_SpoolsFor_l0 k
                  (fun y5 y6 =>
                    some (y5, y6))
                  (fun y7 y8 y9 =>
                    spec_SpoolsFor_l2 k
                      (fun y10 =>
                        some (y10, 0))
                      y7 0 0 1 y8 y9)
                  a3 1 a2 x4)))

def impl_ValidWear_1 (k : Nat) (a1 : Int) : Option (Bool) :=
  Option.bind (impl_within k (IntKind.wrap .i64 a1) 0 100) fun x1 =>
    some (!x1)

def slices_IndexFunc_int8_s0 {R : Type} (k : Nat) (K1 : Int → Option R) (K2 : Option R) (rec : (List Int) → (List Int → Option Bool) → Int → Int → Option R) (h1 : List Int) (h2 : List Int → Option Bool) (h3 : Int) (h4 : Int) : Option R :=
  cond (decide (h4 < h3))
    (cond ((decide (0 ≤ h4)) && (decide (h4 < ((cnt 1 h1) : Int))))
      (Option.bind (h2 [(rd h1 (h4.toNat * 1))]) fun x1 =>
        cond x1
          (K1 h4)
          (rec h1 h2 h3 (IntKind.wrap .i64 (h4 + 1))))
      none)
    (K2)

def slices_IndexFunc_int8_l0 {R : Type} (k : Nat) (K1 : Int → Option R) (K2 : Option R) (h1 : List Int) (h2 : List Int → Option Bool) (h3 : Int) (h4 : Int) : Option R :=
  loopF (fun (rec : (List Int) × (List Int → Option Bool) × Int × Int → Option R) (p : (List Int) × (List Int → Option Bool) × Int × Int) => slices_IndexFunc_int8_s0 k K1 K2 (fun h1 h2 h3 h4 => rec (h1, h2, h3, h4)) p.1 p.2.1 p.2.2.1 p.2.2.2) k (h1, h2, h3, h4)

def slices_IndexFunc_int8 (k : Nat) (a1 : List Int) (a2 : List Int → Option Bool) : Option (Int) :=
  slices_IndexFunc_int8_l0 k
    (fun y1 =>
      some y1)
    (some (-1))
    a1 a2 ((cnt 1 a1) : Int) 0

def slices_ContainsFunc_int8 (k : Nat) (a1 : List Int) (a2 : List Int → Option Bool) : Option (Bool) :=
  Option.bind (slices_IndexFunc_int8 k a1 a2) fun x1 =>
    some (decide (x1 ≥ 0))

def impl_ValidWear (k : Nat) (a1 : List Int) : Option (Bool) :=
  cond ((rd a1 0) == 0)
    (Option.bind (slices_ContainsFunc_int8 k (win a1 0 5) (fun z1 => (impl_ValidWear_1 k (rd z1 0)).bind fun b => some b)) fun x2 =>
      some (!x2))
    (some false)

def impl_Lawn_around_s0 {R : Type} (k : Nat) (K1 : (List Int) → (List Int) → Option R) (rec : Int → Int → (List Int) → (List Int) → (List Int) → (List Int) → Option R) (h1 : Int) (h2 : Int) (h3 : List Int) (h4 : List Int) (h5 : List Int) (h6 : List Int) : Option R :=
  cond (decide (h2 < h1))
    (cond ((decide (0 ≤ h2)) && (decide (h2 < ((cnt 2 h6) : Int))))
      (Option.bind (impl_Lawn_has k h3 [(rd h6 (h2.toNat * 2)), (rd h6 ((h2.toNat * 2) + 1))]) fun x1 =>
        cond x1
          (Option.bind (impl_Lawn_kind k h3 [(rd h6 (h2.toNat * 2)), (rd h6 ((h2.toNat * 2) + 1))]) fun x2 =>
            cond ((decide (0 ≤ x2)) && (decide (x2 < 5)))
              (cond ((decide (0 ≤ x2)) && (decide (x2 < 5)))
                (rec h1 (IntKind.wrap .i64 (h2 + 1)) h3 h4 (List.set h5 (0 + x2.toNat * 1) (IntKind.wrap .i64 ((rd h5 (0 + x2.toNat * 1)) + 1))) h6)
                none)
              none)
          (rec h1 (IntKind.wrap .i64 (h2 + 1)) h3 h4 (List.set h5 4 (IntKind.wrap .i64 ((rd h5 4) + 1))) h6))
      none)
    (K1 h4 h5)

def impl_Lawn_around_l0 {R : Type} (k : Nat) (K1 : (List Int) → (List Int) → Option R) (h1 : Int) (h2 : Int) (h3 : List Int) (h4 : List Int) (h5 : List Int) (h6 : List Int) : Option R :=
  loopF (fun (rec : Int × Int × (List Int) × (List Int) × (List Int) × (List Int) → Option R) (p : Int × Int × (List Int) × (List Int) × (List Int) × (List Int)) => impl_Lawn_around_s0 k K1 (fun h1 h2 h3 h4 h5 h6 => rec (h1, h2, h3, h4, h5, h6)) p.1 p.2.1 p.2.2.1 p.2.2.2.1 p.2.2.2.2.1 p.2.2.2.2.2) k (h1, h2, h3, h4, h5, h6)

def impl_Lawn_around (k : Nat) (a1 : List Int) (a2 : List Int) : Option ((List Int)) :=
  Option.bind (impl_beside k [(rd a2 0), (rd a2 1)]) fun x1 =>
    impl_Lawn_around_l0 k
      (fun y2 y3 =>
        some [(rd y3 0), (rd y3 1), (rd y3 2), (rd y3 3), (rd y3 4)])
      ((cnt 2 x1) : Int) 0 a1 [0, 0, 0, 0, 0] [0, 0, 0, 0, 0] x1

def impl_Lawn_sides_s0 {R : Type} (k : Nat) (K1 : Int → Int → (List Int) → (List Int) → (List Int) → (List Int) → Option R) (rec : Int → Int → (List Int) → Int → (List Int) → (List Int) → (List Int) → (List Int) → Option R) (h1 : Int) (h2 : Int) (h3 : List Int) (h4 : Int) (h5 : List Int) (h6 : List Int) (h7 : List Int) (h8 : List Int) : Option R :=
  cond (decide (h4 < 5))
    (cond ((decide (0 ≤ h4)) && (decide (h4 < 5)))
      (cond ((decide (0 ≤ h4)) && (decide (h4 < 5)))
        (cond ((decide (0 ≤ h4)) && (decide (h4 < 5)))
          (rec h1 h2 h3 (IntKind.wrap .i64 (h4 + 1)) h5 h6 (List.set h7 (0 + h4.toNat * 1) (IntKind.wrap .i64 ((rd h7 (0 + h4.toNat * 1)) + (rd h3 (h4.toNat * 1))))) h8)
          none)
        none)
      none)
    (K1 h1 h2 h5 h6 h7 h8)

def impl_Lawn_sides_l0 {R : Type} (k : Nat) (K1 : Int → Int → (List Int) → (List Int) → (List Int) → (List Int) → Option R) (h1 : Int) (h2 : Int) (h3 : List Int) (h4 : Int) (h5 : List Int) (h6 : List Int) (h7 : List Int) (h8 : List Int) : Option R :=
  loopF (fun (rec : Int × Int × (List Int) × Int × (List Int) × (List Int) × (List Int) × (List Int) → Option R) (p : Int × Int × (List Int) × Int × (List Int) × (List Int) × (List Int) × (List Int)) => impl_Lawn_sides_s0 k K1 (fun h1 h2 h3 h4 h5 h6 h7 h8 => rec (h1, h2, h3, h4, h5, h6, h7, h8)) p.1 p.2.1 p.2.2.1 p.2.2.2.1 p.2.2.2.2.1 p.2.2.2.2.2.1 p.2.2.2.2.2.2.1 p.2.2.2.2.2.2.2) k (h1, h2, h3, h4, h5, h6, h7, h8)

def impl_Lawn_sides_s1 {R : Type} (k : Nat) (K1 : (List Int) → (List Int) → Option R) (rec : Int → Int → (List Int) → (List Int) → (List Int) → (List Int) → Option R) (h1 : Int) (h2 : Int) (h3 : List Int) (h4 : List Int) (h5 : List Int) (h6 : List Int) : Option R :=
  cond (decide (h2 < h1))
    (cond ((decide (0 ≤ h2)) && (decide (h2 < ((cnt 2 h6) : Int))))
      (Option.bind (impl_Lawn_around k h3 [(rd h6 (h2.toNat * 2)), (rd h6 ((h2.toNat * 2) + 1))]) fun x1 =>
        impl_Lawn_sides_l0 k
          (fun y2 y3 y4 y5 y6 y7 =>
            rec y2 (IntKind.wrap .i64 (y3 + 1)) y4 y5 y6 y7)
          h1 h2 x1 0 h3 h4 h5 h6)
      none)
    (K1 h4 h5)

def impl_Lawn_sides_l1 {R : Type} (k : Nat) (K1 : (List Int) → (List Int) → Option R) (h1 : Int) (h2 : Int) (h3 : List Int) (h4 : List Int) (h5 : List Int) (h6 : List Int) : Option R :=
  loopF (fun (rec : Int × Int × (List Int) × (List Int) × (List Int) × (List Int) → Option R) (p : Int × Int × (List Int) × (List Int) × (List Int) × (List Int)) => impl_Lawn_sides_s1 k K1 (fun h1 h2 h3 h4 h5 h6 => rec (h1, h2, h3, h4, h5, h6)) p.1 p.2.1 p.2.2.1 p.2.2.2.1 p.2.2.2.2.1 p.2.2.2.2.2) k (h1, h2, h3, h4, h5, h6)

def impl_Lawn_sides (k : Nat) (a1 : List Int) : Option ((List Int)) :=
  Option.bind (impl_Lawn_those k a1 (fun z1 => (impl_Lawn_grass k a1 [(rd z1 0), (rd z1 1)]).bind fun b => some b)) fun x2 =>
    impl_Lawn_sides_l1 k
      (fun y3 y4 =>
        some [(rd y4 0), (rd y4 1), (rd y4 2), (rd y4 3), (rd y4 4)])
      ((cnt 2 x2) : Int) 0 a1 [0, 0, 0, 0, 0] [0, 0, 0, 0, 0] x2

def impl_SpoolsFor_s0 {R : Type} (k : Nat) (K1 : Int → Int → Int → (List Int) → Int → (List Int) → Option R) (rec : Int → Int → Int → Int → (List Int) → Int → Int → Int → (List Int) → Option R) (h1 : Int) (h2 : Int) (h3 : Int) (h4 : Int) (h5 : List Int) (h6 : Int) (h7 : Int) (h8 : Int) (h9 : List Int) : Option R :=
  cond (decide (h8 < h7))
    (cond (decide (h3 < h4))
      (rec h1 (IntKind.wrap .i64 (h2 + 1)) (IntKind.wrap .i64 (h1 - h4)) h4 h5 h6 h7 (IntKind.wrap .i64 (h8 + 1)) h9)
      (rec h1 h2 (IntKind.wrap .i64 (h3 - h4)) h4 h5 h6 h7 (IntKind.wrap .i64 (h8 + 1)) h9))
    (K1 h1 h2 h3 h5 h6 h9)

def impl_SpoolsFor_l0 {R : Type} (k : Nat) (K1 : Int → Int → Int → (List Int) → Int → (List Int) → Option R) (h1 : Int) (h2 : Int) (h3 : Int) (h4 : Int) (h5 : List Int) (h6 : Int) (h7 : Int) (h8 : Int) (h9 : List Int) : Option R :=
  loopF (fun (rec : Int × Int × Int × Int × (List Int) × Int × Int × Int × (List Int) → Option R) (p : Int × Int × Int × Int × (List Int) × Int × Int × Int × (List Int)) => impl_SpoolsFor_s0 k K1 (fun h1 h2 h3 h4 h5 h6 h7 h8 h9 => rec (h1, h2, h3, h4, h5, h6, h7, h8, h9)) p.1 p.2.1 p.2.2.1 p.2.2.2.1 p.2.2.2.2.1 p.2.2.2.2.2.1 p.2.2.2.2.2.2.1 p.2.2.2.2.2.2.2.1 p.2.2.2.2.2.2.2.2) k (h1, h2, h3, h4, h5, h6, h7, h8, h9)

def impl_SpoolsFor_s1 {R : Type} (k : Nat) (K1 : Int → Int → Option R) (K2 : Int → Option R) (rec : Int → Int → Int → (List Int) → Int → (List Int) → Option R) (h1 : Int) (h2 : Int) (h3 : Int) (h4 : List Int) (h5 : Int) (h6 : List Int) : Option R :=
  cond (decide (h5 < 5))
    (cond ((decide (0 ≤ h5)) && (decide (h5 < 5)))
      (cond ((decide (0 ≤ h5)) && (decide (h5 < 5)))
        (cond (decide ((rd h4 (h5.toNat * 1)) > 0))
          (cond (decide ((IntKind.wrap .i64 (rd h6 (0 + h5.toNat * 1))) > h1))
            (K1 0 6)
            (impl_SpoolsFor_l0 k
              (fun y1 y2 y3 y4 y5 y6 =>
                rec y1 y2 y3 y4 (IntKind.wrap .i64 (y5 + 1)) y6)
              h1 h2 h3 (IntKind.wrap .i64 (rd h6 (0 + h5.toNat * 1))) h4 h5 (rd h4 (h5.toNat * 1)) 0 h6))
          (impl_SpoolsFor_l0 k
            (fun y7 y8 y9 y10 y11 y12 =>
              rec y7 y8 y9 y10 (IntKind.wrap .i64 (y11 + 1)) y12)
            h1 h2 h3 (IntKind.wrap .i64 (rd h6 (0 + h5.toNat * 1))) h4 h5 (rd h4 (h5.toNat * 1)) 0 h6))
        none)
      none)
    (K2 h2)

def impl_SpoolsFor_l1 {R : Type} (k : Nat) (K1 : Int → Int → Option R) (K2 : Int → Option R) (h1 : Int) (h2 : Int) (h3 : Int) (h4 : List Int) (h5 : Int) (h6 : List Int) : Option R :=
  loopF (fun (rec : Int × Int × Int × (List Int) × Int × (List Int) → Option R) (p : Int × Int × Int × (List Int) × Int × (List Int)) => impl_SpoolsFor_s1 k K1 K2 (fun h1 h2 h3 h4 h5 h6 => rec (h1, h2, h3, h4, h5, h6)) p.1 p.2.1 p.2.2.1 p.2.2.2.1 p.2.2.2.2.1 p.2.2.2.2.2) k (h1, h2, h3, h4, h5, h6)

def impl_SpoolsFor (k : Nat) (a1 : List Int) (a2 : List Int) (a3 : Int) : Option (Int × Int) :=
  Option.bind (impl_ValidLawn k a1) fun x1 =>
    cond (!x1)
      (some (0, 1))
      (Option.bind (impl_ValidWear k [(rd a2 0), (rd a2 1), (rd a2 2), (rd a2 3), (rd a2 4)]) fun x2 =>
        cond (!x2)
          (some (0, 1))
          (Option.bind (impl_within k a3 1 5000) fun x3 =>
            cond (!x3)
              (some (0, 2))
              (Option.bind (impl_Lawn_sides k a1) fun x4 =>
                impl_SpoolsFor_l1 k
                  (fun y5 y6 =>
                    some (y5, y6))
                  (fun y7 =>
                    some (y7, 0))
                  a3 0 0 x4 0 a2)))

def laws_FnExactSpoolsFor (k : Nat) (a1 : List Int) (a2 : List Int) (a3 : Int) : Option (Bool) :=
  Option.bind (laws_toLawn k a1) fun x1 =>
    Option.bind (laws_toWear k [(rd a2 0), (rd a2 1), (rd a2 2), (rd a2 3), (rd a2 4)]) fun x2 =>
      Option.bind (spec_SpoolsFor k x1 x2 a3) fun x3 =>
        Option.bind (laws_toLawn k a1) fun x4 =>
          Option.bind (laws_toWear k [(rd a2 0), (rd a2 1), (rd a2 2), (rd a2 3), (rd a2 4)]) fun x5 =>
            Option.bind (impl_SpoolsFor k x4 x5 a3) fun x6 =>
              cond (x6.1 != x3.1)
                (some false)
                (cond (x6.2 != x3.2)
                  (some false)
                  (some true))

def spec_HillsIn_s0 {R : Type} (k : Nat) (K1 : (List Int) → Option R) (rec : Int → Int → (List Int) → (List Int) → (List Int) → Option R) (h1 : Int) (h2 : Int) (h3 : List Int) (h4 : List Int) (h5 : List Int) : Option R :=
  cond (decide (h2 < ((cnt 2 h5) : Int)))
    (cond ((decide (0 ≤ h2)) && (decide (h2 < ((cnt 2 h5) : Int))))
      (Option.bind (spec_l06At k h3 [(rd h5 (h2.toNat * 2)), (rd h5 ((h2.toNat * 2) + 1))]) fun x1 =>
        cond (decide (x1 ≥ h1))
          (cond ((decide (0 ≤ h2)) && (decide (h2 < ((cnt 2 h5) : Int))))
            (cond (decide (h4.length + 2 ≤ bigLen))
              (rec h1 (IntKind.wrap .i64 (h2 + 1)) h3 (h4 ++ [(rd h5 (h2.toNat * 2)), (rd h5 ((h2.toNat * 2) + 1))]) h5)
              none)
            none)
          (rec h1 (IntKind.wrap .i64 (h2 + 1)) h3 h4 h5))
      none)
    (K1 h4)

def spec_HillsIn_l0 {R : Type} (k : Nat) (K1 : (List Int) → Option R) (h1 : Int) (h2 : Int) (h3 : List Int) (h4 : List Int) (h5 : List Int) : Option R :=
  loopF (fun (rec : Int × Int × (List Int) × (List Int) × (List Int) → Option R) (p : Int × Int × (List Int) × (List Int) × (List Int)) => spec_HillsIn_s0 k K1 (fun h1 h2 h3 h4 h5 => rec (h1, h2, h3, h4, h5)) p.1 p.2.1 p.2.2.1 p.2.2.2.1 p.2.2.2.2) k (h1, h2, h3, h4, h5)

def spec_HillsIn (k : Nat) (a1 : List Int) (a2 : List Int) (a3 : Int) : Option ((List Int) × Int) :=
  Option.bind (spec_l06Level k a3) fun x1 =>
    Option.bind (spec_l06Asked k a1 a2 x1) fun x2 =>
      cond (x2 != 0)
        (some ([], x2))
        (Option.bind (spec_l01Cells k a1 0) fun x3 =>
          spec_HillsIn_l0 k
            (fun y4 =>
              some (y4, 0))
            a3 0 a2 [] x3)

def impl_HillsIn_1 (k : Nat) (a1 : List Int) (a2 : List Int) (a3 : List Int) (a4 : List Int) : Option (Bool) :=
  Option.bind (impl_Lawn_grass k a2 [(rd a1 0), (rd a1 1)]) fun x1 =>
    cond x1
      (Option.bind (impl_Levels_of k a3 [(rd a1 0), (rd a1 1)]) fun x2 =>
        some (decide (x2 ≥ (rd a4 0))))
      (some false)

def impl_HillsIn (k : Nat) (a1 : List Int) (a2 : List Int) (a3 : Int) : Option ((List Int) × Int) :=
  Option.bind (impl_soilCode k a1 a2 []) fun x1 =>
    cond (x1 == 0)
      (Option.bind (impl_within k a3 (-9) 9) fun x2 =>
        cond (!x2)
          (some ([], 2))
          (cond (x1 != 0)
            (some ([], x1))
            (Option.bind (impl_Lawn_those k a1 (fun z3 => (impl_HillsIn_1 k [(rd z3 0), (rd z3 1)] a1 a2 [a3]).bind fun b => some b)) fun x4 =>
              some (x4, 0))))
      (cond (x1 != 0)
        (some ([], x1))
        (Option.bind (impl_Lawn_those k a1 (fun z5 => (impl_HillsIn_1 k [(rd z5 0), (rd z5 1)] a1 a2 [a3]).bind fun b => some b)) fun x6 =>
          some (x6, 0)))

def laws_eqCell (k : Nat) (a1 : List Int) (a2 : List Int) : Option (Bool) :=
  cond ((rd a1 0) != (rd a2 0))
    (some false)
    (cond ((rd a1 1) != (rd a2 1))
      (some false)
      (some true))

def laws_eqCellS_s0 {R : Type} (k : Nat) (K1 : Bool → Option R) (K2 : Option R) (rec : (List Int) → (List Int) → Int → Option R) (h1 : List Int) (h2 : List Int) (h3 : Int) : Option R :=
  cond (decide (h3 < ((cnt 2 h1) : Int)))
    (cond ((decide (0 ≤ h3)) && (decide (h3 < ((cnt 2 h1) : Int))))
      (cond ((decide (0 ≤ h3)) && (decide (h3 < ((cnt 2 h2) : Int))))
        (Option.bind (laws_eqCell k [(rd h1 (h3.toNat * 2)), (rd h1 ((h3.toNat * 2) + 1))] [(rd h2 (h3.toNat * 2)), (rd h2 ((h3.toNat * 2) + 1))]) fun x1 =>
          cond (!x1)
            (K1 false)
            (rec h1 h2 (IntKind.wrap .i64 (h3 + 1))))
        none)
      none)
    (K2)

def laws_eqCellS_l0 {R : Type} (k : Nat) (K1 : Bool → Option R) (K2 : Option R) (h1 : List Int) (h2 : List Int) (h3 : Int) : Option R :=
  loopF (fun (rec : (List Int) × (List Int) × Int → Option R) (p : (List Int) × (List Int) × Int) => laws_eqCellS_s0 k K1 K2 (fun h1 h2 h3 => rec (h1, h2, h3)) p.1 p.2.1 p.2.2) k (h1, h2, h3)

def laws_eqCellS (k : Nat) (a1 : List Int) (a2 : List Int) : Option (Bool) :=
  cond (((cnt 2 a1) : Int) != ((cnt 2 a2) : Int))
    (some false)
    (laws_eqCellS_l0 k
      (fun y1 =>
        some y1)
      (some true)
      a1 a2 0)

def laws_markCellS_s0 {R : Type} (k : Nat) (K1 : Int → (List Int) → Option R) (rec : Int → Int → (List Int) → Option R) (h1 : Int) (h2 : Int) (h3 : List Int) : Option R :=
  cond (decide (h2 < ((cnt 2 h3) : Int)))
    (cond ((decide (0 ≤ h2)) && (decide (h2 < ((cnt 2 h3) : Int))))
      (cond ((decide (0 ≤ h2)) && (decide (h2 < (((cnt 2 (List.set h3 (h2.toNat * 2) (IntKind.wrap .i8 h1))) : Nat) : Int))))
        (rec (IntKind.wrap .i64 ((IntKind.wrap .i64 (h1 + 1)) + 1)) (IntKind.wrap .i64 (h2 + 1)) (List.set (List.set h3 (h2.toNat * 2) (IntKind.wrap .i8 h1)) ((h2.toNat * 2) + 1) (IntKind.wrap .i8 (IntKind.wrap .i64 (h1 + 1)))))
        none)
      none)
    (K1 h1 h3)

def laws_markCellS_l0 {R : Type} (k : Nat) (K1 : Int → (List Int) → Option R) (h1 : Int) (h2 : Int) (h3 : List Int) : Option R :=
  loopF (fun (rec : Int × Int × (List Int) → Option R) (p : Int × Int × (List Int)) => laws_markCellS_s0 k K1 (fun h1 h2 h3 => rec (h1, h2, h3)) p.1 p.2.1 p.2.2) k (h1, h2, h3)

def laws_markCellS (k : Nat) (a1 : List Int) (a2 : Int) : Option ((Int) × List Int) :=
  laws_markCellS_l0 k
    (fun y1 y2 =>
      some (y1, y2))
    a2 0 a1

def laws_heldCellS_s0 {R : Type} (k : Nat) (K1 : Int → Option R) (K2 : Int → Option R) (rec : (List Int) → Int → Int → Option R) (h1 : List Int) (h2 : Int) (h3 : Int) : Option R :=
  cond (decide (h3 < ((cnt 2 h1) : Int)))
    (cond ((decide (0 ≤ h3)) && (decide (h3 < ((cnt 2 h1) : Int))))
      (cond ((rd h1 (h3.toNat * 2)) != (IntKind.wrap .i8 h2))
        (K1 (-1))
        (cond ((decide (0 ≤ h3)) && (decide (h3 < ((cnt 2 h1) : Int))))
          (cond ((rd h1 ((h3.toNat * 2) + 1)) != (IntKind.wrap .i8 (IntKind.wrap .i64 (h2 + 1))))
            (K1 (-1))
            (rec h1 (IntKind.wrap .i64 ((IntKind.wrap .i64 (h2 + 1)) + 1)) (IntKind.wrap .i64 (h3 + 1))))
          none))
      none)
    (K2 h2)

def laws_heldCellS_l0 {R : Type} (k : Nat) (K1 : Int → Option R) (K2 : Int → Option R) (h1 : List Int) (h2 : Int) (h3 : Int) : Option R :=
  loopF (fun (rec : (List Int) × Int × Int → Option R) (p : (List Int) × Int × Int) => laws_heldCellS_s0 k K1 K2 (fun h1 h2 h3 => rec (h1, h2, h3)) p.1 p.2.1 p.2.2) k (h1, h2, h3)

def laws_heldCellS (k : Nat) (a1 : List Int) (a2 : Int) : Option (Int) :=
  laws_heldCellS_l0 k
    (fun y1 =>
      some y1)
    (fun y2 =>
      some y2)
    a1 a2 0

def laws_FnExactHillsIn (k : Nat) (a1 : List Int) (a2 : List Int) (a3 : Int) : Option (Bool) :=
  Option.bind (laws_toLawn k a1) fun x1 =>
    Option.bind (laws_toLevels k a2) fun x2 =>
      Option.bind (spec_HillsIn k x1 x2 a3) fun x3 =>
        Option.bind (laws_toLawn k a1) fun x4 =>
          Option.bind (laws_toLevels k a2) fun x5 =>
            Option.bind (impl_HillsIn k x4 x5 a3) fun x6 =>
              Option.bind (laws_eqCellS k x6.1 x3.1) fun x7 =>
                cond (!x7)
                  (some false)
                  (cond (x6.2 != x3.2)
                    (some false)
                    (Option.bind (laws_markCellS k x6.1 1) fun x8 =>
                      Option.bind (laws_heldCellS k x8.2 1) fun x9 =>
                        cond (decide (x9 < 0))
                          (some false)
                          (cond (x9 != x8.1)
                            (some false)
                            (Option.bind (laws_toLawn k a1) fun x10 =>
                              Option.bind (laws_toLevels k a2) fun x11 =>
                                Option.bind (impl_HillsIn k x10 x11 a3) fun x12 =>
                                  Option.bind (laws_eqCellS k x12.1 x3.1) fun x13 =>
                                    cond (!x13)
                                      (some false)
                                      (cond (x12.2 != x3.2)
                                        (some false)
                                        (Option.bind (laws_heldCellS k x8.2 1) fun x14 =>
                                          cond (decide (x14 < 0))
                                            (some false)
                                            (cond (x14 != x8.1)
                                              (some false)
                                              (some true))))))))

def laws_szCellS (k : Nat) (a1 : List Int) (a2 : Int) : Option (Int) :=
  cond (decide ((IntKind.wrap .i64 (a2 - ((cnt 2 a1) : Int))) < 0))
    (some (-1))
    (some (IntKind.wrap .i64 (a2 - ((cnt 2 a1) : Int))))

def laws_toCell (k : Nat) (a1 : List Int) : Option ((List Int)) :=
  some [(rd a1 0), (rd a1 1)]

def laws_toCellS_s0 {R : Type} (k : Nat) (K1 : (List Int) → Option R) (rec : (List Int) → Int → (List Int) → Option R) (h1 : List Int) (h2 : Int) (h3 : List Int) : Option R :=
  cond (decide (h2 < ((cnt 2 h1) : Int)))
    (cond ((decide (0 ≤ h2)) && (decide (h2 < ((cnt 2 h1) : Int))))
      (Option.bind (laws_toCell k [(rd h1 (h2.toNat * 2)), (rd h1 ((h2.toNat * 2) + 1))]) fun x1 =>
        cond ((decide (0 ≤ h2)) && (decide (h2 < ((cnt 2 h3) : Int))))
          (rec h1 (IntKind.wrap .i64 (h2 + 1)) (setWin h3 (h2.toNat * 2) 2 x1))
          none)
      none)
    (K1 h3)

def laws_toCellS_l0 {R : Type} (k : Nat) (K1 : (List Int) → Option R) (h1 : List Int) (h2 : Int) (h3 : List Int) : Option R :=
  loopF (fun (rec : (List Int) × Int × (List Int) → Option R) (p : (List Int) × Int × (List Int)) => laws_toCellS_s0 k K1 (fun h1 h2 h3 => rec (h1, h2, h3)) p.1 p.2.1 p.2.2) k (h1, h2, h3)

def laws_toCellS (k : Nat) (a1 : List Int) : Option ((List Int)) :=
  cond ((decide (0 ≤ ((cnt 2 a1) : Int))) && ((decide (((cnt 2 a1) : Int) ≤ 4294967296)) && (((cnt 2 a1) : Int) == ((cnt 2 a1) : Int))))
    (laws_toCellS_l0 k
      (fun y1 =>
        some y1)
      a1 0 (List.replicate (((cnt 2 a1) : Int).toNat * 2) 0))
    none

def spec_l01Open (k : Nat) (a1 : List Int) (a2 : List Int) : Option (Bool) :=
  Option.bind (spec_l01At k a1 [(rd a2 0), (rd a2 1)]) fun x1 =>
    cond (x1 == 0)
      (some true)
      (Option.bind (spec_l01At k a1 [(rd a2 0), (rd a2 1)]) fun x2 =>
        some (x2 == 3))

def spec_l04Open (k : Nat) (a1 : List Int) (a2 : List Int) : Option (Bool) :=
  Option.bind (spec_l01Is k a1 [(rd a2 0), (rd a2 1)]) fun x1 =>
    cond x1
      (Option.bind (spec_l01Open k a1 [(rd a2 0), (rd a2 1)]) fun x2 =>
        some x2)
      (some false)

def spec_l04Beside (k : Nat) (a1 : List Int) (a2 : List Int) : Option (Bool) :=
  some (decide ((IntKind.wrap .i64 ((IntKind.wrap .i64 ((IntKind.wrap .i64 ((IntKind.wrap .i64 (rd a1 0)) - (IntKind.wrap .i64 (rd a2 0)))) * (IntKind.wrap .i64 ((IntKind.wrap .i64 (rd a1 0)) - (IntKind.wrap .i64 (rd a2 0)))))) + (IntKind.wrap .i64 ((IntKind.wrap .i64 ((IntKind.wrap .i64 (rd a1 1)) - (IntKind.wrap .i64 (rd a2 1)))) * (IntKind.wrap .i64 ((IntKind.wrap .i64 (rd a1 1)) - (IntKind.wrap .i64 (rd a2 1)))))))) ≤ 1))

def spec_l04Right_s0 {R : Type} (k : Nat) (K1 : Bool → Option R) (K2 : (List Int) → Option R) (rec : (List Int) → (List Int) → Int → Option R) (h1 : List Int) (h2 : List Int) (h3 : Int) : Option R :=
  cond (decide (h3 < ((cnt 2 h2) : Int)))
    (cond ((decide (0 ≤ h3)) && (decide (h3 < ((cnt 2 h2) : Int))))
      (Option.bind (spec_l04Open k h1 [(rd h2 (h3.toNat * 2)), (rd h2 ((h3.toNat * 2) + 1))]) fun x1 =>
        cond (!x1)
          (K1 false)
          (cond (decide (h3 > 0))
            (cond ((decide (0 ≤ (IntKind.wrap .i64 (h3 - 1)))) && (decide ((IntKind.wrap .i64 (h3 - 1)) < ((cnt 2 h2) : Int))))
              (cond ((decide (0 ≤ h3)) && (decide (h3 < ((cnt 2 h2) : Int))))
                (Option.bind (spec_l04Beside k [(rd h2 ((IntKind.wrap .i64 (h3 - 1)).toNat * 2)), (rd h2 (((IntKind.wrap .i64 (h3 - 1)).toNat * 2) + 1))] [(rd h2 (h3.toNat * 2)), (rd h2 ((h3.toNat * 2) + 1))]) fun x2 =>
                  cond (!x2)
                    (K1 false)
                    (rec h1 h2 (IntKind.wrap .i64 (h3 + 1))))
                none)
              none)
            (rec h1 h2 (IntKind.wrap .i64 (h3 + 1)))))
      none)
    (K2 h2)

def spec_l04Right_l0 {R : Type} (k : Nat) (K1 : Bool → Option R) (K2 : (List Int) → Option R) (h1 : List Int) (h2 : List Int) (h3 : Int) : Option R :=
  loopF (fun (rec : (List Int) × (List Int) × Int → Option R) (p : (List Int) × (List Int) × Int) => spec_l04Right_s0 k K1 K2 (fun h1 h2 h3 => rec (h1, h2, h3)) p.1 p.2.1 p.2.2) k (h1, h2, h3)

def spec_l04Right (k : Nat) (a1 : List Int) (a2 : List Int) : Option (Bool) :=
  spec_l04Right_l0 k
    (fun y1 =>
      some y1)
    (fun y2 =>
      some (decide (((cnt 2 y2) : Int) > 0)))
    a1 a2 0

def spec_l04Walked (k : Nat) (a1 : List Int) (a2 : List Int) : Option (Int) :=
  Option.bind (spec_l01Ok k a1) fun x1 =>
    cond (!x1)
      (some 1)
      (cond (decide (((cnt 2 a2) : Int) > 201))
        (some 3)
        (Option.bind (spec_l04Right k a1 a2) fun x2 =>
          cond (!x2)
            (some 4)
            (some 0)))

def spec_l04Times_s0 {R : Type} (k : Nat) (K1 : (List Int) → Int → Int → Int → (List Int) → (List Int) → Option R) (rec : (List Int) → Int → Int → Int → Int → (List Int) → (List Int) → Option R) (h1 : List Int) (h2 : Int) (h3 : Int) (h4 : Int) (h5 : Int) (h6 : List Int) (h7 : List Int) : Option R :=
  cond (decide (h5 < ((cnt 2 h1) : Int)))
    (cond ((decide (0 ≤ h5)) && (decide (h5 < ((cnt 2 h1) : Int))))
      (cond ((decide (0 ≤ h3)) && (decide (h3 < ((cnt 2 h7) : Int))))
        (cond (eqL [(rd h1 (h5.toNat * 2)), (rd h1 ((h5.toNat * 2) + 1))] [(rd h7 (h3.toNat * 2)), (rd h7 ((h3.toNat * 2) + 1))])
          (rec h1 h2 h3 (IntKind.wrap .i64 (h4 + 1)) (IntKind.wrap .i64 (h5 + 1)) h6 h7)
          (rec h1 h2 h3 h4 (IntKind.wrap .i64 (h5 + 1)) h6 h7))
        none)
      none)
    (K1 h1 h2 h3 h4 h6 h7)

def spec_l04Times_l0 {R : Type} (k : Nat) (K1 : (List Int) → Int → Int → Int → (List Int) → (List Int) → Option R) (h1 : List Int) (h2 : Int) (h3 : Int) (h4 : Int) (h5 : Int) (h6 : List Int) (h7 : List Int) : Option R :=
  loopF (fun (rec : (List Int) × Int × Int × Int × Int × (List Int) × (List Int) → Option R) (p : (List Int) × Int × Int × Int × Int × (List Int) × (List Int)) => spec_l04Times_s0 k K1 (fun h1 h2 h3 h4 h5 h6 h7 => rec (h1, h2, h3, h4, h5, h6, h7)) p.1 p.2.1 p.2.2.1 p.2.2.2.1 p.2.2.2.2.1 p.2.2.2.2.2.1 p.2.2.2.2.2.2) k (h1, h2, h3, h4, h5, h6, h7)

def spec_l04Times_s1 {R : Type} (k : Nat) (K1 : (List Int) → Option R) (rec : (List Int) → Int → Int → (List Int) → (List Int) → Option R) (h1 : List Int) (h2 : Int) (h3 : Int) (h4 : List Int) (h5 : List Int) : Option R :=
  cond (decide (h3 < ((cnt 2 h5) : Int)))
    (spec_l04Times_l0 k
      (fun y1 y2 y3 y4 y5 y6 =>
        cond (decide (y4 ≥ y2))
          (cond ((decide (0 ≤ y3)) && (decide (y3 < ((cnt 2 y6) : Int))))
            (cond (decide (y5.length + 2 ≤ bigLen))
              (rec y1 y2 (IntKind.wrap .i64 (y3 + 1)) (y5 ++ [(rd y6 (y3.toNat * 2)), (rd y6 ((y3.toNat * 2) + 1))]) y6)
              none)
            none)
          (rec y1 y2 (IntKind.wrap .i64 (y3 + 1)) y5 y6))
      h1 h2 h3 0 0 h4 h5)
    (K1 h4)

def spec_l04Times_l1 {R : Type} (k : Nat) (K1 : (List Int) → Option R) (h1 : List Int) (h2 : Int) (h3 : Int) (h4 : List Int) (h5 : List Int) : Option R :=
  loopF (fun (rec : (List Int) × Int × Int × (List Int) × (List Int) → Option R) (p : (List Int) × Int × Int × (List Int) × (List Int)) => spec_l04Times_s1 k K1 (fun h1 h2 h3 h4 h5 => rec (h1, h2, h3, h4, h5)) p.1 p.2.1 p.2.2.1 p.2.2.2.1 p.2.2.2.2) k (h1, h2, h3, h4, h5)

def spec_l04Times (k : Nat) (a1 : List Int) (a2 : List Int) (a3 : Int) : Option ((List Int)) :=
  Option.bind (spec_l01Cells k a1 0) fun x1 =>
    spec_l04Times_l1 k
      (fun y2 =>
        some y2)
      a2 a3 0 [] x1

def spec_CoveredBy (k : Nat) (a1 : List Int) (a2 : List Int) : Option ((List Int) × Int) :=
  Option.bind (spec_l04Walked k a1 a2) fun x1 =>
    cond (x1 != 0)
      (some ([], x1))
      (Option.bind (spec_l04Times k a1 a2 1) fun x2 =>
        some (x2, 0))

def impl_walkCode_1 (k : Nat) (a1 : List Int) : Option (Bool) :=
  some (decide (((cnt 2 a1) : Int) > 201))

def slices_IndexFunc_S_impl_Cell_s0 {R : Type} (k : Nat) (K1 : Int → Option R) (K2 : Option R) (rec : (List (List Int)) → (List Int → Option Bool) → Int → Int → Option R) (h1 : List (List Int)) (h2 : List Int → Option Bool) (h3 : Int) (h4 : Int) : Option R :=
  cond (decide (h4 < h3))
    (cond ((decide (0 ≤ h4)) && (decide (h4 < (h1.length : Int))))
      (Option.bind (h2 (rdr h1 h4.toNat)) fun x1 =>
        cond x1
          (K1 h4)
          (rec h1 h2 h3 (IntKind.wrap .i64 (h4 + 1))))
      none)
    (K2)

def slices_IndexFunc_S_impl_Cell_l0 {R : Type} (k : Nat) (K1 : Int → Option R) (K2 : Option R) (h1 : List (List Int)) (h2 : List Int → Option Bool) (h3 : Int) (h4 : Int) : Option R :=
  loopF (fun (rec : (List (List Int)) × (List Int → Option Bool) × Int × Int → Option R) (p : (List (List Int)) × (List Int → Option Bool) × Int × Int) => slices_IndexFunc_S_impl_Cell_s0 k K1 K2 (fun h1 h2 h3 h4 => rec (h1, h2, h3, h4)) p.1 p.2.1 p.2.2.1 p.2.2.2) k (h1, h2, h3, h4)

def slices_IndexFunc_S_impl_Cell (k : Nat) (a1 : List (List Int)) (a2 : List Int → Option Bool) : Option (Int) :=
  slices_IndexFunc_S_impl_Cell_l0 k
    (fun y1 =>
      some y1)
    (some (-1))
    a1 a2 (a1.length : Int) 0

def slices_ContainsFunc_S_impl_Cell (k : Nat) (a1 : List (List Int)) (a2 : List Int → Option Bool) : Option (Bool) :=
  Option.bind (slices_IndexFunc_S_impl_Cell k a1 a2) fun x1 =>
    some (decide (x1 ≥ 0))

def impl_Lawn_open (k : Nat) (a1 : List Int) (a2 : List Int) : Option (Bool) :=
  Option.bind (impl_Lawn_is k a1 [(rd a2 0), (rd a2 1)] 0) fun x1 =>
    cond x1
      (some true)
      (Option.bind (impl_Lawn_is k a1 [(rd a2 0), (rd a2 1)] 3) fun x2 =>
        some x2)

def slices_Index_impl_Cell_s0 {R : Type} (k : Nat) (K1 : Int → Option R) (K2 : Option R) (rec : (List Int) → Int → Int → (List Int) → Option R) (h1 : List Int) (h2 : Int) (h3 : Int) (h4 : List Int) : Option R :=
  cond (decide (h3 < h2))
    (cond ((decide (0 ≤ h3)) && (decide (h3 < ((cnt 2 h1) : Int))))
      (cond (eqL [(rd h4 0), (rd h4 1)] [(rd h1 (h3.toNat * 2)), (rd h1 ((h3.toNat * 2) + 1))])
        (K1 h3)
        (rec h1 h2 (IntKind.wrap .i64 (h3 + 1)) h4))
      none)
    (K2)

def slices_Index_impl_Cell_l0 {R : Type} (k : Nat) (K1 : Int → Option R) (K2 : Option R) (h1 : List Int) (h2 : Int) (h3 : Int) (h4 : List Int) : Option R :=
  loopF (fun (rec : (List Int) × Int × Int × (List Int) → Option R) (p : (List Int) × Int × Int × (List Int)) => slices_Index_impl_Cell_s0 k K1 K2 (fun h1 h2 h3 h4 => rec (h1, h2, h3, h4)) p.1 p.2.1 p.2.2.1 p.2.2.2) k (h1, h2, h3, h4)

def slices_Index_impl_Cell (k : Nat) (a1 : List Int) (a2 : List Int) : Option (Int) :=
  slices_Index_impl_Cell_l0 k
    (fun y1 =>
      some y1)
    (some (-1))
    a1 ((cnt 2 a1) : Int) 0 a2

def slices_Contains_impl_Cell (k : Nat) (a1 : List Int) (a2 : List Int) : Option (Bool) :=
  Option.bind (slices_Index_impl_Cell k a1 [(rd a2 0), (rd a2 1)]) fun x1 =>
    some (decide (x1 ≥ 0))

def impl_Lawn_isWalk_s0 {R : Type} (k : Nat) (K1 : Bool → Option R) (K2 : (List Int) → Option R) (rec : (List Int) → (List Int) → Int → Int → (List Int) → Option R) (h1 : List Int) (h2 : List Int) (h3 : Int) (h4 : Int) (h5 : List Int) : Option R :=
  cond (decide (h4 < h3))
    (cond ((decide (0 ≤ h4)) && (decide (h4 < ((cnt 2 h2) : Int))))
      (Option.bind (impl_Lawn_open k h5 [(rd h2 (h4.toNat * 2)), (rd h2 ((h4.toNat * 2) + 1))]) fun x1 =>
        cond (!x1)
          (K1 false)
          (cond (decide (h4 > 0))
            (cond ((decide (0 ≤ (IntKind.wrap .i64 (h4 - 1)))) && (decide ((IntKind.wrap .i64 (h4 - 1)) < ((cnt 2 h1) : Int))))
              (cond (!(eqL [(rd h2 (h4.toNat * 2)), (rd h2 ((h4.toNat * 2) + 1))] [(rd h1 ((IntKind.wrap .i64 (h4 - 1)).toNat * 2)), (rd h1 (((IntKind.wrap .i64 (h4 - 1)).toNat * 2) + 1))]))
                (Option.bind (impl_beside k [(rd h2 (h4.toNat * 2)), (rd h2 ((h4.toNat * 2) + 1))]) fun x2 =>
                  cond ((decide (0 ≤ (IntKind.wrap .i64 (h4 - 1)))) && (decide ((IntKind.wrap .i64 (h4 - 1)) < ((cnt 2 h1) : Int))))
                    (Option.bind (slices_Contains_impl_Cell k x2 [(rd h1 ((IntKind.wrap .i64 (h4 - 1)).toNat * 2)), (rd h1 (((IntKind.wrap .i64 (h4 - 1)).toNat * 2) + 1))]) fun x3 =>
                      cond (!x3)
                        (K1 false)
                        (rec h1 h2 h3 (IntKind.wrap .i64 (h4 + 1)) h5))
                    none)
                (rec h1 h2 h3 (IntKind.wrap .i64 (h4 + 1)) h5))
              none)
            (rec h1 h2 h3 (IntKind.wrap .i64 (h4 + 1)) h5)))
      none)
    (K2 h1)

def impl_Lawn_isWalk_l0 {R : Type} (k : Nat) (K1 : Bool → Option R) (K2 : (List Int) → Option R) (h1 : List Int) (h2 : List Int) (h3 : Int) (h4 : Int) (h5 : List Int) : Option R :=
  loopF (fun (rec : (List Int) × (List Int) × Int × Int × (List Int) → Option R) (p : (List Int) × (List Int) × Int × Int × (List Int)) => impl_Lawn_isWalk_s0 k K1 K2 (fun h1 h2 h3 h4 h5 => rec (h1, h2, h3, h4, h5)) p.1 p.2.1 p.2.2.1 p.2.2.2.1 p.2.2.2.2) k (h1, h2, h3, h4, h5)

def impl_Lawn_isWalk (k : Nat) (a1 : List Int) (a2 : List Int) : Option (Bool) :=
  impl_Lawn_isWalk_l0 k
    (fun y1 =>
      some y1)
    (fun y2 =>
      some (decide (((cnt 2 y2) : Int) > 0)))
    a2 a2 ((cnt 2 a2) : Int) 0 a1

def impl_walkCode_2 (k : Nat) (a1 : List Int) (a2 : List Int) : Option (Bool) :=
  Option.bind (impl_Lawn_isWalk k a2 a1) fun x1 =>
    some (!x1)

def impl_walkCode (k : Nat) (a1 : List Int) (a2 : List (List Int)) : Option (Int) :=
  Option.bind (impl_ValidLawn k a1) fun x1 =>
    cond (!x1)
      (some 1)
      (Option.bind (slices_ContainsFunc_S_impl_Cell k a2 (fun z2 => (impl_walkCode_1 k z2).bind fun b => some b)) fun x3 =>
        cond x3
          (some 3)
          (Option.bind (slices_ContainsFunc_S_impl_Cell k a2 (fun z4 => (impl_walkCode_2 k z4 a1).bind fun b => some b)) fun x5 =>
            cond x5
              (some 4)
              (some 0)))

def impl_times_s0 {R : Type} (k : Nat) (K1 : Int → Option R) (rec : Int → (List Int) → Int → Int → (List Int) → Option R) (h1 : Int) (h2 : List Int) (h3 : Int) (h4 : Int) (h5 : List Int) : Option R :=
  cond (decide (h4 < h3))
    (cond ((decide (0 ≤ h4)) && (decide (h4 < ((cnt 2 h2) : Int))))
      (cond (eqL [(rd h2 (h4.toNat * 2)), (rd h2 ((h4.toNat * 2) + 1))] [(rd h5 0), (rd h5 1)])
        (rec (IntKind.wrap .i64 (h1 + 1)) h2 h3 (IntKind.wrap .i64 (h4 + 1)) h5)
        (rec h1 h2 h3 (IntKind.wrap .i64 (h4 + 1)) h5))
      none)
    (K1 h1)

def impl_times_l0 {R : Type} (k : Nat) (K1 : Int → Option R) (h1 : Int) (h2 : List Int) (h3 : Int) (h4 : Int) (h5 : List Int) : Option R :=
  loopF (fun (rec : Int × (List Int) × Int × Int × (List Int) → Option R) (p : Int × (List Int) × Int × Int × (List Int)) => impl_times_s0 k K1 (fun h1 h2 h3 h4 h5 => rec (h1, h2, h3, h4, h5)) p.1 p.2.1 p.2.2.1 p.2.2.2.1 p.2.2.2.2) k (h1, h2, h3, h4, h5)

def impl_times (k : Nat) (a1 : List Int) (a2 : List Int) : Option (Int) :=
  impl_times_l0 k
    (fun y1 =>
      some y1)
    0 a1 ((cnt 2 a1) : Int) 0 a2

def impl_CoveredBy_1 (k : Nat) (a1 : List Int) (a2 : List Int) (a3 : List Int) : Option (Bool) :=
  Option.bind (impl_Lawn_grass k a2 [(rd a1 0), (rd a1 1)]) fun x1 =>
    cond x1
      (Option.bind (impl_times k a3 [(rd a1 0), (rd a1 1)]) fun x2 =>
        some (decide (x2 > 0)))
      (some false)

def impl_CoveredBy (k : Nat) (a1 : List Int) (a2 : List Int) : Option ((List Int) × Int) :=
  Option.bind (impl_walkCode k a1 [a2]) fun x1 =>
    cond (x1 != 0)
      (some ([], x1))
      (Option.bind (impl_Lawn_those k a1 (fun z2 => (impl_CoveredBy_1 k [(rd z2 0), (rd z2 1)] a1 a2).bind fun b => some b)) fun x3 =>
        some (x3, 0))

def laws_FnExactCoveredBy (k : Nat) (a1 : List Int) (a2 : List Int) : Option (Bool) :=
  Option.bind (laws_szCellS k a2 1048576) fun x1 =>
    cond (decide (x1 < 0))
      (some true)
      (Option.bind (laws_toLawn k a1) fun x2 =>
        Option.bind (laws_toCellS k a2) fun x3 =>
          Option.bind (spec_CoveredBy k x2 x3) fun x4 =>
            Option.bind (laws_toCellS k a2) fun x5 =>
              Option.bind (laws_toLawn k a1) fun x6 =>
                Option.bind (impl_CoveredBy k x6 x5) fun x7 =>
                  Option.bind (laws_eqCellS k x7.1 x4.1) fun x8 =>
                    cond (!x8)
                      (some false)
                      (cond (x7.2 != x4.2)
                        (some false)
                        (Option.bind (laws_toCellS k a2) fun x9 =>
                          Option.bind (laws_eqCellS k x5 x9) fun x10 =>
                            cond (!x10)
                              (some false)
                              (Option.bind (laws_markCellS k x5 1) fun x11 =>
                                cond (decide (x11.1 < 0))
                                  (some false)
                                  (Option.bind (laws_eqCellS k x7.1 x4.1) fun x12 =>
                                    cond (!x12)
                                      (some false)
                                      (cond (x7.2 != x4.2)
                                        (some false)
                                        (Option.bind (laws_markCellS k x7.1 1) fun x13 =>
                                          Option.bind (laws_heldCellS k x13.2 1) fun x14 =>
                                            cond (decide (x14 < 0))
                                              (some false)
                                              (cond (x14 != x13.1)
                                                (some false)
                                                (Option.bind (laws_toLawn k a1) fun x15 =>
                                                  Option.bind (laws_toCellS k a2) fun x16 =>
                                                    Option.bind (impl_CoveredBy k x15 x16) fun x17 =>
                                                      Option.bind (laws_eqCellS k x17.1 x4.1) fun x18 =>
                                                        cond (!x18)
                                                          (some false)
                                                          (cond (x17.2 != x4.2)
                                                            (some false)
                                                            (Option.bind (laws_heldCellS k x13.2 1) fun x19 =>
                                                              cond (decide (x19 < 0))
                                                                (some false)
                                                                (cond (x19 != x13.1)
                                                                  (some false)
                                                                  (some true)))))))))))))

def spec_CoveredTwice (k : Nat) (a1 : List Int) (a2 : List Int) : Option ((List Int) × Int) :=
  Option.bind (spec_l04Walked k a1 a2) fun x1 =>
    cond (x1 != 0)
      (some ([], x1))
      (Option.bind (spec_l04Times k a1 a2 2) fun x2 =>
        some (x2, 0))

def impl_CoveredTwice_1 (k : Nat) (a1 : List Int) (a2 : List Int) (a3 : List Int) : Option (Bool) :=
  Option.bind (impl_Lawn_grass k a2 [(rd a1 0), (rd a1 1)]) fun x1 =>
    cond x1
      (Option.bind (impl_times k a3 [(rd a1 0), (rd a1 1)]) fun x2 =>
        some (decide (x2 > 1)))
      (some false)

def impl_CoveredTwice (k : Nat) (a1 : List Int) (a2 : List Int) : Option ((List Int) × Int) :=
  Option.bind (impl_walkCode k a1 [a2]) fun x1 =>
    cond (x1 != 0)
      (some ([], x1))
      (Option.bind (impl_Lawn_those k a1 (fun z2 => (impl_CoveredTwice_1 k [(rd z2 0), (rd z2 1)] a1 a2).bind fun b => some b)) fun x3 =>
        some (x3, 0))

def laws_FnExactCoveredTwice (k : Nat) (a1 : List Int) (a2 : List Int) : Option (Bool) :=
  Option.bind (laws_szCellS k a2 1048576) fun x1 =>
    cond (decide (x1 < 0))
      (some true)
      (Option.bind (laws_toLawn k a1) fun x2 =>
        Option.bind (laws_toCellS k a2) fun x3 =>
          Option.bind (spec_CoveredTwice k x2 x3) fun x4 =>
            Option.bind (laws_toCellS k a2) fun x5 =>
              Option.bind (laws_toLawn k a1) fun x6 =>
                Option.bind (impl_CoveredTwice k x6 x5) fun x7 =>
                  Option.bind (laws_eqCellS k x7.1 x4.1) fun x8 =>
                    cond (!x8)
                      (some false)
                      (cond (x7.2 != x4.2)
                        (some false)
                        (Option.bind (laws_toCellS k a2) fun x9 =>
                          Option.bind (laws_eqCellS k x5 x9) fun x10 =>
                            cond (!x10)
                              (some false)
                              (Option.bind (laws_markCellS k x5 1) fun x11 =>
                                cond (decide (x11.1 < 0))
                                  (some false)
                                  (Option.bind (laws_eqCellS k x7.1 x4.1) fun x12 =>
                                    cond (!x12)
                                      (some false)
                                      (cond (x7.2 != x4.2)
                                        (some false)
                                        (Option.bind (laws_markCellS k x7.1 1) fun x13 =>
                                          Option.bind (laws_heldCellS k x13.2 1) fun x14 =>
                                            cond (decide (x14 < 0))
                                              (some false)
                                              (cond (x14 != x13.1)
                                                (some false)
                                                (Option.bind (laws_toLawn k a1) fun x15 =>
                                                  Option.bind (laws_toCellS k a2) fun x16 =>
                                                    Option.bind (impl_CoveredTwice k x15 x16) fun x17 =>
                                                      Option.bind (laws_eqCellS k x17.1 x4.1) fun x18 =>
                                                        cond (!x18)
                                                          (some false)
                                                          (cond (x17.2 != x4.2)
                                                            (some false)
                                                            (Option.bind (laws_heldCellS k x13.2 1) fun x19 =>
                                                              cond (decide (x19 < 0))
                                                                (some false)
                                                                (cond (x19 != x13.1)
                                                                  (some false)
                                                                  (some true)))))))))))))


end Go.Proofs.Ytkblhnedillknaa.Tt
