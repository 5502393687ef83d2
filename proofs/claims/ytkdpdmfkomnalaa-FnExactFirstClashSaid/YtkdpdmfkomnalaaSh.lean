/- The functions in plain Lean. -/
import Derived.Test.YtkdpdmfkomnalaaE6
set_option linter.unusedVariables false
set_option linter.unusedSimpArgs false
set_option linter.unusedVariables false
namespace Go.Proofs.Ytkdpdmfkomnalaa.Tt
open Go.Ev Go

def laws_szCellS (k : Nat) (a1 : List Int) (a2 : Int) : Option (Int) :=
  cond (decide ((IntKind.wrap .i64 (a2 - ((cnt 2 a1) : Int))) < 0))
    (some (-1))
    (some (IntKind.wrap .i64 (a2 - ((cnt 2 a1) : Int))))

def laws_szCellSS_s0 {R : Type} (k : Nat) (K1 : Int → Option R) (K2 : Int → Option R) (rec : (List (List Int)) → Int → Int → Option R) (h1 : List (List Int)) (h2 : Int) (h3 : Int) : Option R :=
  cond (decide (h3 < (h1.length : Int)))
    (cond ((decide (0 ≤ h3)) && (decide (h3 < (h1.length : Int))))
      (Option.bind (laws_szCellS k (rdr h1 h3.toNat) h2) fun x1 =>
        cond (decide (x1 < 0))
          (K1 (-1))
          (rec h1 x1 (IntKind.wrap .i64 (h3 + 1))))
      none)
    (K2 h2)

def laws_szCellSS_l0 {R : Type} (k : Nat) (K1 : Int → Option R) (K2 : Int → Option R) (h1 : List (List Int)) (h2 : Int) (h3 : Int) : Option R :=
  loopF (fun (rec : (List (List Int)) × Int × Int → Option R) (p : (List (List Int)) × Int × Int) => laws_szCellSS_s0 k K1 K2 (fun h1 h2 h3 => rec (h1, h2, h3)) p.1 p.2.1 p.2.2) k (h1, h2, h3)

def laws_szCellSS (k : Nat) (a1 : List (List Int)) (a2 : Int) : Option (Int) :=
  cond (decide ((IntKind.wrap .i64 (a2 - (a1.length : Int))) < 0))
    (some (-1))
    (laws_szCellSS_l0 k
      (fun y1 =>
        some y1)
      (fun y2 =>
        some y2)
      a1 (IntKind.wrap .i64 (a2 - (a1.length : Int))) 0)

def laws_toByteA10_s0 {R : Type} (k : Nat) (K1 : (List Int) → (List Int) → Option R) (rec : Int → (List Int) → (List Int) → (List Int) → Option R) (h1 : Int) (h2 : List Int) (h3 : List Int) (h4 : List Int) : Option R :=
  cond (decide (h1 < 10))
    (cond ((decide (0 ≤ h1)) && (decide (h1 < 10)))
      (cond ((decide (0 ≤ h1)) && (decide (h1 < 10)))
        (rec (IntKind.wrap .i64 (h1 + 1)) h2 h3 (List.set h4 (0 + h1.toNat * 1) (rd h2 (0 + h1.toNat * 1))))
        none)
      none)
    (K1 h3 h4)

def laws_toByteA10_l0 {R : Type} (k : Nat) (K1 : (List Int) → (List Int) → Option R) (h1 : Int) (h2 : List Int) (h3 : List Int) (h4 : List Int) : Option R :=
  loopF (fun (rec : Int × (List Int) × (List Int) × (List Int) → Option R) (p : Int × (List Int) × (List Int) × (List Int)) => laws_toByteA10_s0 k K1 (fun h1 h2 h3 h4 => rec (h1, h2, h3, h4)) p.1 p.2.1 p.2.2.1 p.2.2.2) k (h1, h2, h3, h4)

def laws_toByteA10 (k : Nat) (a1 : List Int) : Option ((List Int)) :=
  laws_toByteA10_l0 k
    (fun y1 y2 =>
      some y2)
    0 a1 [0, 0, 0, 0, 0, 0, 0, 0, 0, 0] [0, 0, 0, 0, 0, 0, 0, 0, 0, 0]

def laws_toByteA10A10_s0 {R : Type} (k : Nat) (K1 : (List Int) → (List Int) → Option R) (rec : Int → (List Int) → (List Int) → (List Int) → Option R) (h1 : Int) (h2 : List Int) (h3 : List Int) (h4 : List Int) : Option R :=
  cond (decide (h1 < 10))
    (cond ((decide (0 ≤ h1)) && (decide (h1 < 10)))
      (Option.bind (laws_toByteA10 k (win h2 (0 + h1.toNat * 10) 10)) fun x1 =>
        cond ((decide (0 ≤ h1)) && (decide (h1 < 10)))
          (rec (IntKind.wrap .i64 (h1 + 1)) h2 h3 (setWin h4 (0 + h1.toNat * 10) 10 x1))
          none)
      none)
    (K1 h3 h4)

def laws_toByteA10A10_l0 {R : Type} (k : Nat) (K1 : (List Int) → (List Int) → Option R) (h1 : Int) (h2 : List Int) (h3 : List Int) (h4 : List Int) : Option R :=
  loopF (fun (rec : Int × (List Int) × (List Int) × (List Int) → Option R) (p : Int × (List Int) × (List Int) × (List Int)) => laws_toByteA10A10_s0 k K1 (fun h1 h2 h3 h4 => rec (h1, h2, h3, h4)) p.1 p.2.1 p.2.2.1 p.2.2.2) k (h1, h2, h3, h4)

def laws_toByteA10A10 (k : Nat) (a1 : List Int) : Option ((List Int)) :=
  laws_toByteA10A10_l0 k
    (fun y1 y2 =>
      some y2)
    0 a1 (List.replicate 100 0) (List.replicate 100 0)

def laws_toLawn (k : Nat) (a1 : List Int) : Option ((List Int)) :=
  Option.bind (laws_toByteA10A10 k (win a1 2 100)) fun x1 =>
    some (setWin (List.set (List.set (List.replicate 102 0) 0 (rd a1 0)) 1 (rd a1 1)) 2 100 x1)

def laws_toCell (k : Nat) (a1 : List Int) : Option ((List Int)) :=
  some [(rd a1 0), (rd a1 1)]

def laws_toCellS_s0 {R : Type} (k : Nat) (K1 : (List Int) → Option R) (rec : (List Int) → Int → (List Int) → Option R) (h1 : List Int) (h2 : Int) (h3 : List Int) : Option R :=
  cond (decide (h2 < ((cnt 2 h1) : Int)))
    (cond ((decide (0 ≤ h2)) && (decide (h2 < ((cnt 2 h1) : Int))))
      (Option.bind (laws_toCell k [(rd h1 (h2.toNat * 2)), (rd h1 ((h2.toNat * 2) + 1))]) fun x1 =>
        cond ((decide (0 ≤ h2)) && (decide (h2 < ((cnt 2 h3) : Int))))
          (rec h1 (IntKind.wrap .i64 (h2 + 1)) (setWin h3 (h2.toNat * 2) 2 x1))
          none)
      none)
    (K1 h3)

def laws_toCellS_l0 {R : Type} (k : Nat) (K1 : (List Int) → Option R) (h1 : List Int) (h2 : Int) (h3 : List Int) : Option R :=
  loopF (fun (rec : (List Int) × Int × (List Int) → Option R) (p : (List Int) × Int × (List Int)) => laws_toCellS_s0 k K1 (fun h1 h2 h3 => rec (h1, h2, h3)) p.1 p.2.1 p.2.2) k (h1, h2, h3)

def laws_toCellS (k : Nat) (a1 : List Int) : Option ((List Int)) :=
  cond ((decide (0 ≤ ((cnt 2 a1) : Int))) && ((decide (((cnt 2 a1) : Int) ≤ 4294967296)) && (((cnt 2 a1) : Int) == ((cnt 2 a1) : Int))))
    (laws_toCellS_l0 k
      (fun y1 =>
        some y1)
      a1 0 (List.replicate (((cnt 2 a1) : Int).toNat * 2) 0))
    none

def laws_toCellSS_s0 {R : Type} (k : Nat) (K1 : (List (List Int)) → Option R) (rec : (List (List Int)) → Int → (List (List Int)) → Option R) (h1 : List (List Int)) (h2 : Int) (h3 : List (List Int)) : Option R :=
  cond (decide (h2 < (h1.length : Int)))
    (cond ((decide (0 ≤ h2)) && (decide (h2 < (h1.length : Int))))
      (Option.bind (laws_toCellS k (rdr h1 h2.toNat)) fun x1 =>
        cond ((decide (0 ≤ h2)) && (decide (h2 < (h3.length : Int))))
          (rec h1 (IntKind.wrap .i64 (h2 + 1)) (List.set h3 (h2.toNat * 1) x1))
          none)
      none)
    (K1 h3)

def laws_toCellSS_l0 {R : Type} (k : Nat) (K1 : (List (List Int)) → Option R) (h1 : List (List Int)) (h2 : Int) (h3 : List (List Int)) : Option R :=
  loopF (fun (rec : (List (List Int)) × Int × (List (List Int)) → Option R) (p : (List (List Int)) × Int × (List (List Int))) => laws_toCellSS_s0 k K1 (fun h1 h2 h3 => rec (h1, h2, h3)) p.1 p.2.1 p.2.2) k (h1, h2, h3)

def laws_toCellSS (k : Nat) (a1 : List (List Int)) : Option (((List (List Int))) × List Int) :=
  cond ((decide (0 ≤ (a1.length : Int))) && ((decide ((a1.length : Int) ≤ 4294967296)) && ((a1.length : Int) == (a1.length : Int))))
    (laws_toCellSS_l0 k
      (fun y1 =>
        some (y1, []))
      a1 0 (List.replicate (a1.length : Int).toNat []))
    none

def spec_l00In (k : Nat) (a1 : Int) (a2 : Int) (a3 : Int) : Option (Bool) :=
  cond (decide (a1 ≥ a2))
    (some (decide (a1 ≤ a3)))
    (some false)

def spec_l01Side (k : Nat) (a1 : Int) : Option (Bool) :=
  Option.bind (spec_l00In k a1 1 10) fun x1 =>
    some x1

def spec_l01Kind (k : Nat) (a1 : Int) : Option (Bool) :=
  Option.bind (spec_l00In k a1 0 3) fun x1 =>
    some x1

def spec_l01Is (k : Nat) (a1 : List Int) (a2 : List Int) : Option (Bool) :=
  Option.bind (spec_l00In k (IntKind.wrap .i64 (rd a2 0)) 0 (IntKind.wrap .i64 ((IntKind.wrap .i64 (rd a1 0)) - 1))) fun x1 =>
    cond x1
      (Option.bind (spec_l00In k (IntKind.wrap .i64 (rd a2 1)) 0 (IntKind.wrap .i64 ((IntKind.wrap .i64 (rd a1 1)) - 1))) fun x2 =>
        some x2)
      (some false)

def spec_l01Ok_s0 {R : Type} (k : Nat) (K1 : Bool → Option R) (K2 : (List Int) → Int → Option R) (rec : (List Int) → Int → Int → Option R) (h1 : List Int) (h2 : Int) (h3 : Int) : Option R :=
  cond (decide (h3 < 10))
    (cond ((decide (0 ≤ h2)) && (decide (h2 < 10)))
      (cond ((decide (0 ≤ h3)) && (decide (h3 < 10)))
        (Option.bind (spec_l01Kind k (IntKind.wrap .i64 (rd h1 ((2 + h2.toNat * 10) + h3.toNat * 1)))) fun x1 =>
          cond (!x1)
            (K1 false)
            (cond ((IntKind.wrap .i64 (rd h1 ((2 + h2.toNat * 10) + h3.toNat * 1))) != 0)
              (Option.bind (spec_l01Is k h1 [h3, h2]) fun x2 =>
                cond (!x2)
                  (K1 false)
                  (rec h1 h2 (IntKind.wrap .i8 (h3 + 1))))
              (rec h1 h2 (IntKind.wrap .i8 (h3 + 1)))))
        none)
      none)
    (K2 h1 h2)

def spec_l01Ok_l0 {R : Type} (k : Nat) (K1 : Bool → Option R) (K2 : (List Int) → Int → Option R) (h1 : List Int) (h2 : Int) (h3 : Int) : Option R :=
  loopF (fun (rec : (List Int) × Int × Int → Option R) (p : (List Int) × Int × Int) => spec_l01Ok_s0 k K1 K2 (fun h1 h2 h3 => rec (h1, h2, h3)) p.1 p.2.1 p.2.2) k (h1, h2, h3)

def spec_l01Ok_s1 {R : Type} (k : Nat) (K1 : Bool → Option R) (K2 : Option R) (rec : (List Int) → Int → Option R) (h1 : List Int) (h2 : Int) : Option R :=
  cond (decide (h2 < 10))
    (spec_l01Ok_l0 k
      (fun y1 =>
        K1 y1)
      (fun y2 y3 =>
        rec y2 (IntKind.wrap .i8 (y3 + 1)))
      h1 h2 0)
    (K2)

def spec_l01Ok_l1 {R : Type} (k : Nat) (K1 : Bool → Option R) (K2 : Option R) (h1 : List Int) (h2 : Int) : Option R :=
  loopF (fun (rec : (List Int) × Int → Option R) (p : (List Int) × Int) => spec_l01Ok_s1 k K1 K2 (fun h1 h2 => rec (h1, h2)) p.1 p.2) k (h1, h2)

def spec_l01Ok (k : Nat) (a1 : List Int) : Option (Bool) :=
  Option.bind (spec_l01Side k (IntKind.wrap .i64 (rd a1 0))) fun x1 =>
    cond (!x1)
      (some false)
      (Option.bind (spec_l01Side k (IntKind.wrap .i64 (rd a1 1))) fun x2 =>
        cond (!x2)
          (some false)
          (spec_l01Ok_l1 k
            (fun y3 =>
              some y3)
            (some true)
            a1 0))

def spec_l01At (k : Nat) (a1 : List Int) (a2 : List Int) : Option (Int) :=
  cond ((decide (0 ≤ (rd a2 1))) && (decide ((rd a2 1) < 10)))
    (cond ((decide (0 ≤ (rd a2 0))) && (decide ((rd a2 0) < 10)))
      (some (IntKind.wrap .i64 (rd a1 ((2 + (rd a2 1).toNat * 10) + (rd a2 0).toNat * 1))))
      none)
    none

def spec_l01Open (k : Nat) (a1 : List Int) (a2 : List Int) : Option (Bool) :=
  Option.bind (spec_l01At k a1 [(rd a2 0), (rd a2 1)]) fun x1 =>
    cond (x1 == 0)
      (some true)
      (Option.bind (spec_l01At k a1 [(rd a2 0), (rd a2 1)]) fun x2 =>
        some (x2 == 3))

def spec_l04Open (k : Nat) (a1 : List Int) (a2 : List Int) : Option (Bool) :=
  Option.bind (spec_l01Is k a1 [(rd a2 0), (rd a2 1)]) fun x1 =>
    cond x1
      (Option.bind (spec_l01Open k a1 [(rd a2 0), (rd a2 1)]) fun x2 =>
        some x2)
      (some false)

def spec_l04Beside (k : Nat) (a1 : List Int) (a2 : List Int) : Option (Bool) :=
  some (decide ((IntKind.wrap .i64 ((IntKind.wrap .i64 ((IntKind.wrap .i64 ((IntKind.wrap .i64 (rd a1 0)) - (IntKind.wrap .i64 (rd a2 0)))) * (IntKind.wrap .i64 ((IntKind.wrap .i64 (rd a1 0)) - (IntKind.wrap .i64 (rd a2 0)))))) + (IntKind.wrap .i64 ((IntKind.wrap .i64 ((IntKind.wrap .i64 (rd a1 1)) - (IntKind.wrap .i64 (rd a2 1)))) * (IntKind.wrap .i64 ((IntKind.wrap .i64 (rd a1 1)) - (IntKind.wrap .i64 (rd a2 1)))))))) ≤ 1))

def spec_l04Right_s0 {R : Type} (k : Nat) (K1 : Bool → Option R) (K2 : (List Int) → Option R) (rec : (List Int) → (List Int) → Int → Option R) (h1 : List Int) (h2 : List Int) (h3 : Int) : Option R :=
  cond (decide (h3 < ((cnt 2 h2) : Int)))
    (cond ((decide (0 ≤ h3)) && (decide (h3 < ((cnt 2 h2) : Int))))
      (Option.bind (spec_l04Open k h1 [(rd h2 (h3.toNat * 2)), (rd h2 ((h3.toNat * 2) + 1))]) fun x1 =>
        cond (!x1)
          (K1 false)
          (cond (decide (h3 > 0))
            (cond ((decide (0 ≤ (IntKind.wrap .i64 (h3 - 1)))) && (decide ((IntKind.wrap .i64 (h3 - 1)) < ((cnt 2 h2) : Int))))
              (cond ((decide (0 ≤ h3)) && (decide (h3 < ((cnt 2 h2) : Int))))
                (Option.bind (spec_l04Beside k [(rd h2 ((IntKind.wrap .i64 (h3 - 1)).toNat * 2)), (rd h2 (((IntKind.wrap .i64 (h3 - 1)).toNat * 2) + 1))] [(rd h2 (h3.toNat * 2)), (rd h2 ((h3.toNat * 2) + 1))]) fun x2 =>
                  cond (!x2)
                    (K1 false)
                    (rec h1 h2 (IntKind.wrap .i64 (h3 + 1))))
                none)
              none)
            (rec h1 h2 (IntKind.wrap .i64 (h3 + 1)))))
      none)
    (K2 h2)

def spec_l04Right_l0 {R : Type} (k : Nat) (K1 : Bool → Option R) (K2 : (List Int) → Option R) (h1 : List Int) (h2 : List Int) (h3 : Int) : Option R :=
  loopF (fun (rec : (List Int) × (List Int) × Int → Option R) (p : (List Int) × (List Int) × Int) => spec_l04Right_s0 k K1 K2 (fun h1 h2 h3 => rec (h1, h2, h3)) p.1 p.2.1 p.2.2) k (h1, h2, h3)

def spec_l04Right (k : Nat) (a1 : List Int) (a2 : List Int) : Option (Bool) :=
  spec_l04Right_l0 k
    (fun y1 =>
      some y1)
    (fun y2 =>
      some (decide (((cnt 2 y2) : Int) > 0)))
    a1 a2 0

def spec_l04Several_s0 {R : Type} (k : Nat) (K1 : Int → Option R) (K2 : (List Int) → (List (List Int)) → Option R) (rec : (List Int) → (List (List Int)) → Int → Option R) (h1 : List Int) (h2 : List (List Int)) (h3 : Int) : Option R :=
  cond (decide (h3 < (h2.length : Int)))
    (cond ((decide (0 ≤ h3)) && (decide (h3 < (h2.length : Int))))
      (cond (decide (((cnt 2 (rdr h2 h3.toNat)) : Int) > 201))
        (K1 3)
        (rec h1 h2 (IntKind.wrap .i64 (h3 + 1))))
      none)
    (K2 h1 h2)

def spec_l04Several_l0 {R : Type} (k : Nat) (K1 : Int → Option R) (K2 : (List Int) → (List (List Int)) → Option R) (h1 : List Int) (h2 : List (List Int)) (h3 : Int) : Option R :=
  loopF (fun (rec : (List Int) × (List (List Int)) × Int → Option R) (p : (List Int) × (List (List Int)) × Int) => spec_l04Several_s0 k K1 K2 (fun h1 h2 h3 => rec (h1, h2, h3)) p.1 p.2.1 p.2.2) k (h1, h2, h3)

def spec_l04Several_s1 {R : Type} (k : Nat) (K1 : Int → Option R) (K2 : Option R) (rec : (List Int) → (List (List Int)) → Int → Option R) (h1 : List Int) (h2 : List (List Int)) (h3 : Int) : Option R :=
  cond (decide (h3 < (h2.length : Int)))
    (cond ((decide (0 ≤ h3)) && (decide (h3 < (h2.length : Int))))
      (Option.bind (spec_l04Right k h1 (rdr h2 h3.toNat)) fun x1 =>
        cond (!x1)
          (K1 4)
          (rec h1 h2 (IntKind.wrap .i64 (h3 + 1))))
      none)
    (K2)

def spec_l04Several_l1 {R : Type} (k : Nat) (K1 : Int → Option R) (K2 : Option R) (h1 : List Int) (h2 : List (List Int)) (h3 : Int) : Option R :=
  loopF (fun (rec : (List Int) × (List (List Int)) × Int → Option R) (p : (List Int) × (List (List Int)) × Int) => spec_l04Several_s1 k K1 K2 (fun h1 h2 h3 => rec (h1, h2, h3)) p.1 p.2.1 p.2.2) k (h1, h2, h3)

def spec_l04Several (k : Nat) (a1 : List Int) (a2 : List (List Int)) : Option (Int) :=
  Option.bind (spec_l01Ok k a1) fun x1 =>
    cond (!x1)
      (some 1)
      (spec_l04Several_l0 k
        (fun y2 =>
          some y2)
        (fun y3 y4 =>
          cond (decide ((y4.length : Int) > 6))
            (some 3)
            (spec_l04Several_l1 k
              (fun y5 =>
                some y5)
              (some 0)
              y3 y4 0))
        a1 a2 0)

def spec_l04Longest_s0 {R : Type} (k : Nat) (K1 : Int → Option R) (rec : (List (List Int)) → Int → Int → Option R) (h1 : List (List Int)) (h2 : Int) (h3 : Int) : Option R :=
  cond (decide (h3 < (h1.length : Int)))
    (cond ((decide (0 ≤ h3)) && (decide (h3 < (h1.length : Int))))
      (cond (decide (((cnt 2 (rdr h1 h3.toNat)) : Int) > h2))
        (cond ((decide (0 ≤ h3)) && (decide (h3 < (h1.length : Int))))
          (rec h1 ((cnt 2 (rdr h1 h3.toNat)) : Int) (IntKind.wrap .i64 (h3 + 1)))
          none)
        (rec h1 h2 (IntKind.wrap .i64 (h3 + 1))))
      none)
    (K1 h2)

def spec_l04Longest_l0 {R : Type} (k : Nat) (K1 : Int → Option R) (h1 : List (List Int)) (h2 : Int) (h3 : Int) : Option R :=
  loopF (fun (rec : (List (List Int)) × Int × Int → Option R) (p : (List (List Int)) × Int × Int) => spec_l04Longest_s0 k K1 (fun h1 h2 h3 => rec (h1, h2, h3)) p.1 p.2.1 p.2.2) k (h1, h2, h3)

def spec_l04Longest (k : Nat) (a1 : List (List Int)) : Option (Int) :=
  spec_l04Longest_l0 k
    (fun y1 =>
      some y1)
    a1 0 0

def spec_l04Where (k : Nat) (a1 : List Int) (a2 : Int) : Option ((List Int)) :=
  cond (decide (a2 ≥ ((cnt 2 a1) : Int)))
    (cond ((decide (0 ≤ (IntKind.wrap .i64 (((cnt 2 a1) : Int) - 1)))) && (decide ((IntKind.wrap .i64 (((cnt 2 a1) : Int) - 1)) < ((cnt 2 a1) : Int))))
      (some [(rd a1 ((IntKind.wrap .i64 (((cnt 2 a1) : Int) - 1)).toNat * 2)), (rd a1 (((IntKind.wrap .i64 (((cnt 2 a1) : Int) - 1)).toNat * 2) + 1))])
      none)
    (cond ((decide (0 ≤ a2)) && (decide (a2 < ((cnt 2 a1) : Int))))
      (some [(rd a1 (a2.toNat * 2)), (rd a1 ((a2.toNat * 2) + 1))])
      none)

def spec_l04Meet (k : Nat) (a1 : List Int) (a2 : List Int) (a3 : Int) : Option (Bool) :=
  Option.bind (spec_l04Where k a1 a3) fun x1 =>
    Option.bind (spec_l04Where k a2 a3) fun x2 =>
      cond (eqL [(rd x1 0), (rd x1 1)] [(rd x2 0), (rd x2 1)])
        (some true)
        (cond (decide (a3 > 0))
          (Option.bind (spec_l04Where k a2 (IntKind.wrap .i64 (a3 - 1))) fun x3 =>
            cond (eqL [(rd x1 0), (rd x1 1)] x3)
              (Option.bind (spec_l04Where k a1 (IntKind.wrap .i64 (a3 - 1))) fun x4 =>
                some (eqL [(rd x2 0), (rd x2 1)] x4))
              (some false))
          (some false))

def spec_l04Clash_s0 {R : Type} (k : Nat) (K1 : Int → Int → Int → Bool → Option R) (K2 : (List (List Int)) → Int → Int → Int → Option R) (rec : (List (List Int)) → Int → Int → Int → Int → Option R) (h1 : List (List Int)) (h2 : Int) (h3 : Int) (h4 : Int) (h5 : Int) : Option R :=
  cond (decide (h5 < (h1.length : Int)))
    (cond ((decide (0 ≤ h4)) && (decide (h4 < (h1.length : Int))))
      (cond ((decide (0 ≤ h5)) && (decide (h5 < (h1.length : Int))))
        (Option.bind (spec_l04Meet k (rdr h1 h4.toNat) (rdr h1 h5.toNat) h3) fun x1 =>
          cond x1
            (K1 h3 h4 h5 true)
            (rec h1 h2 h3 h4 (IntKind.wrap .i64 (h5 + 1))))
        none)
      none)
    (K2 h1 h2 h3 h4)

def spec_l04Clash_l0 {R : Type} (k : Nat) (K1 : Int → Int → Int → Bool → Option R) (K2 : (List (List Int)) → Int → Int → Int → Option R) (h1 : List (List Int)) (h2 : Int) (h3 : Int) (h4 : Int) (h5 : Int) : Option R :=
  loopF (fun (rec : (List (List Int)) × Int × Int × Int × Int → Option R) (p : (List (List Int)) × Int × Int × Int × Int) => spec_l04Clash_s0 k K1 K2 (fun h1 h2 h3 h4 h5 => rec (h1, h2, h3, h4, h5)) p.1 p.2.1 p.2.2.1 p.2.2.2.1 p.2.2.2.2) k (h1, h2, h3, h4, h5)

def spec_l04Clash_s1 {R : Type} (k : Nat) (K1 : Int → Int → Int → Bool → Option R) (K2 : (List (List Int)) → Int → Int → Option R) (rec : (List (List Int)) → Int → Int → Int → Option R) (h1 : List (List Int)) (h2 : Int) (h3 : Int) (h4 : Int) : Option R :=
  cond (decide (h4 < (h1.length : Int)))
    (spec_l04Clash_l0 k
      (fun y1 y2 y3 y4 =>
        K1 y1 y2 y3 y4)
      (fun y5 y6 y7 y8 =>
        rec y5 y6 y7 (IntKind.wrap .i64 (y8 + 1)))
      h1 h2 h3 h4 (IntKind.wrap .i64 (h4 + 1)))
    (K2 h1 h2 h3)

def spec_l04Clash_l1 {R : Type} (k : Nat) (K1 : Int → Int → Int → Bool → Option R) (K2 : (List (List Int)) → Int → Int → Option R) (h1 : List (List Int)) (h2 : Int) (h3 : Int) (h4 : Int) : Option R :=
  loopF (fun (rec : (List (List Int)) × Int × Int × Int → Option R) (p : (List (List Int)) × Int × Int × Int) => spec_l04Clash_s1 k K1 K2 (fun h1 h2 h3 h4 => rec (h1, h2, h3, h4)) p.1 p.2.1 p.2.2.1 p.2.2.2) k (h1, h2, h3, h4)

def spec_l04Clash_s2 {R : Type} (k : Nat) (K1 : Int → Int → Int → Bool → Option R) (K2 : Option R) (rec : (List (List Int)) → Int → Int → Option R) (h1 : List (List Int)) (h2 : Int) (h3 : Int) : Option R :=
  cond (decide (h3 < h2))
    (spec_l04Clash_l1 k
      (fun y1 y2 y3 y4 =>
        K1 y1 y2 y3 y4)
      (fun y5 y6 y7 =>
        rec y5 y6 (IntKind.wrap .i64 (y7 + 1)))
      h1 h2 h3 0)
    (K2)

def spec_l04Clash_l2 {R : Type} (k : Nat) (K1 : Int → Int → Int → Bool → Option R) (K2 : Option R) (h1 : List (List Int)) (h2 : Int) (h3 : Int) : Option R :=
  loopF (fun (rec : (List (List Int)) × Int × Int → Option R) (p : (List (List Int)) × Int × Int) => spec_l04Clash_s2 k K1 K2 (fun h1 h2 h3 => rec (h1, h2, h3)) p.1 p.2.1 p.2.2) k (h1, h2, h3)

def spec_l04Clash (k : Nat) (a1 : List (List Int)) : Option (Int × Int × Int × Bool) :=
  Option.bind (spec_l04Longest k a1) fun x1 =>
    spec_l04Clash_l2 k
      (fun y2 y3 y4 y5 =>
        some (y2, y3, y4, y5))
      (some (0, 0, 0, false))
      a1 x1 0

def spec_FirstClash (k : Nat) (a1 : List Int) (a2 : List (List Int)) : Option (Int × Int × Int × Int) :=
  Option.bind (spec_l04Several k a1 a2) fun x1 =>
    cond (x1 != 0)
      (some (0, 0, 0, x1))
      (Option.bind (spec_l04Clash k a2) fun x2 =>
        cond (!x2.2.2.2)
          (some (0, 0, 0, 6))
          (some (x2.1, x2.2.1, x2.2.2.1, 0)))

def impl_within (k : Nat) (a1 : Int) (a2 : Int) (a3 : Int) : Option (Bool) :=
  cond (decide (a2 ≤ a1))
    (some (decide (a1 ≤ a3)))
    (some false)

def impl_Lawn_has (k : Nat) (a1 : List Int) (a2 : List Int) : Option (Bool) :=
  cond (decide ((rd a2 0) ≥ 0))
    (cond (decide ((rd a2 0) < (rd a1 0)))
      (cond (decide ((rd a2 1) ≥ 0))
        (some (decide ((rd a2 1) < (rd a1 1))))
        (some false))
      (some false))
    (some false)

def impl_ValidLawn_s0 {R : Type} (k : Nat) (K1 : Bool → Option R) (K2 : Int → (List Int) → Option R) (rec : Int → Int → Int → (List Int) → Option R) (h1 : Int) (h2 : Int) (h3 : Int) (h4 : List Int) : Option R :=
  cond (decide (h3 < 10))
    (cond ((decide (0 ≤ h1)) && (decide (h1 < 10)))
      (cond ((decide (0 ≤ h3)) && (decide (h3 < 10)))
        (cond (decide ((rd h4 ((2 + h1.toNat * 10) + h3.toNat * 1)) > 3))
          (K1 false)
          (cond ((rd h4 ((2 + h1.toNat * 10) + h3.toNat * 1)) != 0)
            (Option.bind (impl_Lawn_has k h4 [h3, h1]) fun x1 =>
              cond (!x1)
                (K1 false)
                (rec h1 h2 (IntKind.wrap .i8 (h3 + 1)) h4))
            (rec h1 h2 (IntKind.wrap .i8 (h3 + 1)) h4)))
        none)
      none)
    (K2 h2 h4)

def impl_ValidLawn_l0 {R : Type} (k : Nat) (K1 : Bool → Option R) (K2 : Int → (List Int) → Option R) (h1 : Int) (h2 : Int) (h3 : Int) (h4 : List Int) : Option R :=
  loopF (fun (rec : Int × Int × Int × (List Int) → Option R) (p : Int × Int × Int × (List Int)) => impl_ValidLawn_s0 k K1 K2 (fun h1 h2 h3 h4 => rec (h1, h2, h3, h4)) p.1 p.2.1 p.2.2.1 p.2.2.2) k (h1, h2, h3, h4)

def impl_ValidLawn_s1 {R : Type} (k : Nat) (K1 : Bool → Option R) (K2 : Option R) (rec : Int → (List Int) → Option R) (h1 : Int) (h2 : List Int) : Option R :=
  cond (decide (h1 < 10))
    (impl_ValidLawn_l0 k
      (fun y1 =>
        K1 y1)
      (fun y2 y3 =>
        rec (IntKind.wrap .i8 (y2 + 1)) y3)
      h1 h1 0 h2)
    (K2)

def impl_ValidLawn_l1 {R : Type} (k : Nat) (K1 : Bool → Option R) (K2 : Option R) (h1 : Int) (h2 : List Int) : Option R :=
  loopF (fun (rec : Int × (List Int) → Option R) (p : Int × (List Int)) => impl_ValidLawn_s1 k K1 K2 (fun h1 h2 => rec (h1, h2)) p.1 p.2) k (h1, h2)

def impl_ValidLawn (k : Nat) (a1 : List Int) : Option (Bool) :=
  Option.bind (impl_within k (IntKind.wrap .i64 (rd a1 0)) 1 10) fun x1 =>
    cond (!x1)
      (some false)
      (Option.bind (impl_within k (IntKind.wrap .i64 (rd a1 1)) 1 10) fun x2 =>
        cond (!x2)
          (some false)
          (impl_ValidLawn_l1 k
            (fun y3 =>
              some y3)
            (some true)
            0 a1))

def impl_walkCode_1 (k : Nat) (a1 : List Int) : Option (Bool) :=
  some (decide (((cnt 2 a1) : Int) > 201))

def slices_IndexFunc_S_impl_Cell_s0 {R : Type} (k : Nat) (K1 : Int → Option R) (K2 : Option R) (rec : (List (List Int)) → (List Int → Option Bool) → Int → Int → Option R) (h1 : List (List Int)) (h2 : List Int → Option Bool) (h3 : Int) (h4 : Int) : Option R :=
  cond (decide (h4 < h3))
    (cond ((decide (0 ≤ h4)) && (decide (h4 < (h1.length : Int))))
      (Option.bind (h2 (rdr h1 h4.toNat)) fun x1 =>
        cond x1
          (K1 h4)
          (rec h1 h2 h3 (IntKind.wrap .i64 (h4 + 1))))
      none)
    (K2)

def slices_IndexFunc_S_impl_Cell_l0 {R : Type} (k : Nat) (K1 : Int → Option R) (K2 : Option R) (h1 : List (List Int)) (h2 : List Int → Option Bool) (h3 : Int) (h4 : Int) : Option R :=
  loopF (fun (rec : (List (List Int)) × (List Int → Option Bool) × Int × Int → Option R) (p : (List (List Int)) × (List Int → Option Bool) × Int × Int) => slices_IndexFunc_S_impl_Cell_s0 k K1 K2 (fun h1 h2 h3 h4 => rec (h1, h2, h3, h4)) p.1 p.2.1 p.2.2.1 p.2.2.2) k (h1, h2, h3, h4)

def slices_IndexFunc_S_impl_Cell (k : Nat) (a1 : List (List Int)) (a2 : List Int → Option Bool) : Option (Int) :=
  slices_IndexFunc_S_impl_Cell_l0 k
    (fun y1 =>
      some y1)
    (some (-1))
    a1 a2 (a1.length : Int) 0

def slices_ContainsFunc_S_impl_Cell (k : Nat) (a1 : List (List Int)) (a2 : List Int → Option Bool) : Option (Bool) :=
  Option.bind (slices_IndexFunc_S_impl_Cell k a1 a2) fun x1 =>
    some (decide (x1 ≥ 0))

def impl_Lawn_kind (k : Nat) (a1 : List Int) (a2 : List Int) : Option (Int) :=
  cond ((decide (0 ≤ (rd a2 1))) && (decide ((rd a2 1) < 10)))
    (cond ((decide (0 ≤ (rd a2 0))) && (decide ((rd a2 0) < 10)))
      (some (IntKind.wrap .i64 (rd a1 ((2 + (rd a2 1).toNat * 10) + (rd a2 0).toNat * 1))))
      none)
    none

def impl_Lawn_is (k : Nat) (a1 : List Int) (a2 : List Int) (a3 : Int) : Option (Bool) :=
  Option.bind (impl_Lawn_has k a1 [(rd a2 0), (rd a2 1)]) fun x1 =>
    cond x1
      (Option.bind (impl_Lawn_kind k a1 [(rd a2 0), (rd a2 1)]) fun x2 =>
        some (x2 == a3))
      (some false)

def impl_Lawn_open (k : Nat) (a1 : List Int) (a2 : List Int) : Option (Bool) :=
  Option.bind (impl_Lawn_is k a1 [(rd a2 0), (rd a2 1)] 0) fun x1 =>
    cond x1
      (some true)
      (Option.bind (impl_Lawn_is k a1 [(rd a2 0), (rd a2 1)] 3) fun x2 =>
        some x2)

def impl_beside (k : Nat) (a1 : List Int) : Option ((List Int)) :=
  some [(rd a1 0), (IntKind.wrap .i8 ((rd a1 1) - 1)), (IntKind.wrap .i8 ((rd a1 0) - 1)), (rd a1 1), (IntKind.wrap .i8 ((rd a1 0) + 1)), (rd a1 1), (rd a1 0), (IntKind.wrap .i8 ((rd a1 1) + 1))]

def slices_Index_impl_Cell_s0 {R : Type} (k : Nat) (K1 : Int → Option R) (K2 : Option R) (rec : (List Int) → Int → Int → (List Int) → Option R) (h1 : List Int) (h2 : Int) (h3 : Int) (h4 : List Int) : Option R :=
  cond (decide (h3 < h2))
    (cond ((decide (0 ≤ h3)) && (decide (h3 < ((cnt 2 h1) : Int))))
      (cond (eqL [(rd h4 0), (rd h4 1)] [(rd h1 (h3.toNat * 2)), (rd h1 ((h3.toNat * 2) + 1))])
        (K1 h3)
        (rec h1 h2 (IntKind.wrap .i64 (h3 + 1)) h4))
      none)
    (K2)

def slices_Index_impl_Cell_l0 {R : Type} (k : Nat) (K1 : Int → Option R) (K2 : Option R) (h1 : List Int) (h2 : Int) (h3 : Int) (h4 : List Int) : Option R :=
  loopF (fun (rec : (List Int) × Int × Int × (List Int) → Option R) (p : (List Int) × Int × Int × (List Int)) => slices_Index_impl_Cell_s0 k K1 K2 (fun h1 h2 h3 h4 => rec (h1, h2, h3, h4)) p.1 p.2.1 p.2.2.1 p.2.2.2) k (h1, h2, h3, h4)

def slices_Index_impl_Cell (k : Nat) (a1 : List Int) (a2 : List Int) : Option (Int) :=
  slices_Index_impl_Cell_l0 k
    (fun y1 =>
      some y1)
    (some (-1))
    a1 ((cnt 2 a1) : Int) 0 a2

def slices_Contains_impl_Cell (k : Nat) (a1 : List Int) (a2 : List Int) : Option (Bool) :=
  Option.bind (slices_Index_impl_Cell k a1 [(rd a2 0), (rd a2 1)]) fun x1 =>
    some (decide (x1 ≥ 0))

def impl_Lawn_isWalk_s0 {R : Type} (k : Nat) (K1 : Bool → Option R) (K2 : (List Int) → Option R) (rec : (List Int) → (List Int) → Int → Int → (List Int) → Option R) (h1 : List Int) (h2 : List Int) (h3 : Int) (h4 : Int) (h5 : List Int) : Option R :=
  cond (decide (h4 < h3))
    (cond ((decide (0 ≤ h4)) && (decide (h4 < ((cnt 2 h2) : Int))))
      (Option.bind (impl_Lawn_open k h5 [(rd h2 (h4.toNat * 2)), (rd h2 ((h4.toNat * 2) + 1))]) fun x1 =>
        cond (!x1)
          (K1 false)
          (cond (decide (h4 > 0))
            (cond ((decide (0 ≤ (IntKind.wrap .i64 (h4 - 1)))) && (decide ((IntKind.wrap .i64 (h4 - 1)) < ((cnt 2 h1) : Int))))
              (cond (!(eqL [(rd h2 (h4.toNat * 2)), (rd h2 ((h4.toNat * 2) + 1))] [(rd h1 ((IntKind.wrap .i64 (h4 - 1)).toNat * 2)), (rd h1 (((IntKind.wrap .i64 (h4 - 1)).toNat * 2) + 1))]))
                (Option.bind (impl_beside k [(rd h2 (h4.toNat * 2)), (rd h2 ((h4.toNat * 2) + 1))]) fun x2 =>
                  cond ((decide (0 ≤ (IntKind.wrap .i64 (h4 - 1)))) && (decide ((IntKind.wrap .i64 (h4 - 1)) < ((cnt 2 h1) : Int))))
                    (Option.bind (slices_Contains_impl_Cell k x2 [(rd h1 ((IntKind.wrap .i64 (h4 - 1)).toNat * 2)), (rd h1 (((IntKind.wrap .i64 (h4 - 1)).toNat * 2) + 1))]) fun x3 =>
                      cond (!x3)
                        (K1 false)
                        (rec h1 h2 h3 (IntKind.wrap .i64 (h4 + 1)) h5))
                    none)
                (rec h1 h2 h3 (IntKind.wrap .i64 (h4 + 1)) h5))
              none)
            (rec h1 h2 h3 (IntKind.wrap .i64 (h4 + 1)) h5)))
      none)
    (K2 h1)

def impl_Lawn_isWalk_l0 {R : Type} (k : Nat) (K1 : Bool → Option R) (K2 : (List Int) → Option R) (h1 : List Int) (h2 : List Int) (h3 : Int) (h4 : Int) (h5 : List Int) : Option R :=
  loopF (fun (rec : (List Int) × (List Int) × Int × Int × (List Int) → Option R) (p : (List Int) × (List Int) × Int × Int × (List Int)) => impl_Lawn_isWalk_s0 k K1 K2 (fun h1 h2 h3 h4 h5 => rec (h1, h2, h3, h4, h5)) p.1 p.2.1 p.2.2.1 p.2.2.2.1 p.2.2.2.2) k (h1, h2, h3, h4, h5)

def impl_Lawn_isWalk (k : Nat) (a1 : List Int) (a2 : List Int) : Option (Bool) :=
  impl_Lawn_isWalk_l0 k
    (fun y1 =>
      some y1)
    (fun y2 =>
      some (decide (((cnt 2 y2) : Int) > 0)))
    a2 a2 ((cnt 2 a2) : Int) 0 a1

def impl_walkCode_2 (k : Nat) (a1 : List Int) (a2 : List Int) : Option (Bool) :=
  Option.bind (impl_Lawn_isWalk k a2 a1) fun x1 =>
    some (!x1)

def impl_walkCode (k : Nat) (a1 : List Int) (a2 : List (List Int)) : Option (Int) :=
  Option.bind (impl_ValidLawn k a1) fun x1 =>
    cond (!x1)
      (some 1)
      (Option.bind (slices_ContainsFunc_S_impl_Cell k a2 (fun z2 => (impl_walkCode_1 k z2).bind fun b => some b)) fun x3 =>
        cond x3
          (some 3)
          (Option.bind (slices_ContainsFunc_S_impl_Cell k a2 (fun z4 => (impl_walkCode_2 k z4 a1).bind fun b => some b)) fun x5 =>
            cond x5
              (some 4)
              (some 0)))

def impl_at (k : Nat) (a1 : List Int) (a2 : Int) : Option ((List Int)) :=
  cond ((decide (0 ≤ (minI a2 (IntKind.wrap .i64 (((cnt 2 a1) : Int) - 1))))) && (decide ((minI a2 (IntKind.wrap .i64 (((cnt 2 a1) : Int) - 1))) < ((cnt 2 a1) : Int))))
    (some [(rd a1 ((minI a2 (IntKind.wrap .i64 (((cnt 2 a1) : Int) - 1))).toNat * 2)), (rd a1 (((minI a2 (IntKind.wrap .i64 (((cnt 2 a1) : Int) - 1))).toNat * 2) + 1))])
    none

def impl_clash (k : Nat) (a1 : List Int) (a2 : List Int) (a3 : Int) : Option (Bool) :=
  Option.bind (impl_at k a1 a3) fun x1 =>
    Option.bind (impl_at k a2 a3) fun x2 =>
      cond (eqL x1 x2)
        (some true)
        (cond (decide (a3 > 0))
          (Option.bind (impl_at k a1 a3) fun x3 =>
            Option.bind (impl_at k a2 (IntKind.wrap .i64 (a3 - 1))) fun x4 =>
              cond (eqL x3 x4)
                (Option.bind (impl_at k a1 (IntKind.wrap .i64 (a3 - 1))) fun x5 =>
                  Option.bind (impl_at k a2 a3) fun x6 =>
                    some (eqL x5 x6))
                (some false))
          (some false))

def impl_FirstClash_s0 {R : Type} (k : Nat) (K1 : Int → Int → Int → Int → Option R) (K2 : (List (List Int)) → Int → Int → Int → Int → Option R) (rec : (List (List Int)) → Int → Int → Int → Int → Int → Int → Option R) (h1 : List (List Int)) (h2 : Int) (h3 : Int) (h4 : Int) (h5 : Int) (h6 : Int) (h7 : Int) : Option R :=
  cond (decide (h4 < (h1.length : Int)))
    (cond ((decide (0 ≤ h3)) && (decide (h3 < (h1.length : Int))))
      (cond ((decide (0 ≤ h4)) && (decide (h4 < (h1.length : Int))))
        (Option.bind (impl_clash k (rdr h1 h3.toNat) (rdr h1 h4.toNat) h2) fun x1 =>
          cond x1
            (K1 h2 h3 h4 0)
            (rec h1 h2 h3 (IntKind.wrap .i64 (h4 + 1)) h5 h6 h7))
        none)
      none)
    (K2 h1 h2 h5 h6 h7)

def impl_FirstClash_l0 {R : Type} (k : Nat) (K1 : Int → Int → Int → Int → Option R) (K2 : (List (List Int)) → Int → Int → Int → Int → Option R) (h1 : List (List Int)) (h2 : Int) (h3 : Int) (h4 : Int) (h5 : Int) (h6 : Int) (h7 : Int) : Option R :=
  loopF (fun (rec : (List (List Int)) × Int × Int × Int × Int × Int × Int → Option R) (p : (List (List Int)) × Int × Int × Int × Int × Int × Int) => impl_FirstClash_s0 k K1 K2 (fun h1 h2 h3 h4 h5 h6 h7 => rec (h1, h2, h3, h4, h5, h6, h7)) p.1 p.2.1 p.2.2.1 p.2.2.2.1 p.2.2.2.2.1 p.2.2.2.2.2.1 p.2.2.2.2.2.2) k (h1, h2, h3, h4, h5, h6, h7)

def impl_FirstClash_s1 {R : Type} (k : Nat) (K1 : Int → Int → Int → Int → Option R) (K2 : (List (List Int)) → Int → Option R) (rec : (List (List Int)) → Int → Int → Int → Int → Option R) (h1 : List (List Int)) (h2 : Int) (h3 : Int) (h4 : Int) (h5 : Int) : Option R :=
  cond (decide (h5 < h4))
    (impl_FirstClash_l0 k
      (fun y1 y2 y3 y4 =>
        K1 y1 y2 y3 y4)
      (fun y5 y6 y7 y8 y9 =>
        rec y5 y6 y7 y8 (IntKind.wrap .i64 (y9 + 1)))
      h1 h2 h5 (IntKind.wrap .i64 (h5 + 1)) h3 h4 h5)
    (K2 h1 h3)

def impl_FirstClash_l1 {R : Type} (k : Nat) (K1 : Int → Int → Int → Int → Option R) (K2 : (List (List Int)) → Int → Option R) (h1 : List (List Int)) (h2 : Int) (h3 : Int) (h4 : Int) (h5 : Int) : Option R :=
  loopF (fun (rec : (List (List Int)) × Int × Int × Int × Int → Option R) (p : (List (List Int)) × Int × Int × Int × Int) => impl_FirstClash_s1 k K1 K2 (fun h1 h2 h3 h4 h5 => rec (h1, h2, h3, h4, h5)) p.1 p.2.1 p.2.2.1 p.2.2.2.1 p.2.2.2.2) k (h1, h2, h3, h4, h5)

def impl_FirstClash_s2 {R : Type} (k : Nat) (K1 : Int → Int → Int → Int → Option R) (K2 : Option R) (rec : (List (List Int)) → Int → Option R) (h1 : List (List Int)) (h2 : Int) : Option R :=
  cond (decide (h2 < 201))
    (impl_FirstClash_l1 k
      (fun y1 y2 y3 y4 =>
        K1 y1 y2 y3 y4)
      (fun y5 y6 =>
        rec y5 (IntKind.wrap .i64 (y6 + 1)))
      h1 h2 h2 (h1.length : Int) 0)
    (K2)

def impl_FirstClash_l2 {R : Type} (k : Nat) (K1 : Int → Int → Int → Int → Option R) (K2 : Option R) (h1 : List (List Int)) (h2 : Int) : Option R :=
  loopF (fun (rec : (List (List Int)) × Int → Option R) (p : (List (List Int)) × Int) => impl_FirstClash_s2 k K1 K2 (fun h1 h2 => rec (h1, h2)) p.1 p.2) k (h1, h2)

def impl_FirstClash (k : Nat) (a1 : List Int) (a2 : List (List Int)) : Option (Int × Int × Int × Int) :=
  Option.bind (impl_walkCode k a1 a2) fun x1 =>
    Option.bind (impl_ValidLawn k a1) fun x2 =>
      cond x2
        (cond (decide ((a2.length : Int) > 6))
          (some (0, 0, 0, 3))
          (cond (x1 != 0)
            (some (0, 0, 0, x1))
            (impl_FirstClash_l2 k
              (fun y3 y4 y5 y6 =>
                some (y3, y4, y5, y6))
              (some (0, 0, 0, 6))
              a2 0)))
        (cond (x1 != 0)
          (some (0, 0, 0, x1))
          (impl_FirstClash_l2 k
            (fun y7 y8 y9 y10 =>
              some (y7, y8, y9, y10))
            (some (0, 0, 0, 6))
            a2 0))

def laws_eqCell (k : Nat) (a1 : List Int) (a2 : List Int) : Option (Bool) :=
  cond ((rd a1 0) != (rd a2 0))
    (some false)
    (cond ((rd a1 1) != (rd a2 1))
      (some false)
      (some true))

def laws_eqCellS_s0 {R : Type} (k : Nat) (K1 : Bool → Option R) (K2 : Option R) (rec : (List Int) → (List Int) → Int → Option R) (h1 : List Int) (h2 : List Int) (h3 : Int) : Option R :=
  cond (decide (h3 < ((cnt 2 h1) : Int)))
    (cond ((decide (0 ≤ h3)) && (decide (h3 < ((cnt 2 h1) : Int))))
      (cond ((decide (0 ≤ h3)) && (decide (h3 < ((cnt 2 h2) : Int))))
        (Option.bind (laws_eqCell k [(rd h1 (h3.toNat * 2)), (rd h1 ((h3.toNat * 2) + 1))] [(rd h2 (h3.toNat * 2)), (rd h2 ((h3.toNat * 2) + 1))]) fun x1 =>
          cond (!x1)
            (K1 false)
            (rec h1 h2 (IntKind.wrap .i64 (h3 + 1))))
        none)
      none)
    (K2)

def laws_eqCellS_l0 {R : Type} (k : Nat) (K1 : Bool → Option R) (K2 : Option R) (h1 : List Int) (h2 : List Int) (h3 : Int) : Option R :=
  loopF (fun (rec : (List Int) × (List Int) × Int → Option R) (p : (List Int) × (List Int) × Int) => laws_eqCellS_s0 k K1 K2 (fun h1 h2 h3 => rec (h1, h2, h3)) p.1 p.2.1 p.2.2) k (h1, h2, h3)

def laws_eqCellS (k : Nat) (a1 : List Int) (a2 : List Int) : Option (Bool) :=
  cond (((cnt 2 a1) : Int) != ((cnt 2 a2) : Int))
    (some false)
    (laws_eqCellS_l0 k
      (fun y1 =>
        some y1)
      (some true)
      a1 a2 0)

def laws_eqCellSS_s0 {R : Type} (k : Nat) (K1 : Bool → Option R) (K2 : Option R) (rec : (List (List Int)) → (List (List Int)) → Int → Option R) (h1 : List (List Int)) (h2 : List (List Int)) (h3 : Int) : Option R :=
  cond (decide (h3 < (h1.length : Int)))
    (cond ((decide (0 ≤ h3)) && (decide (h3 < (h1.length : Int))))
      (cond ((decide (0 ≤ h3)) && (decide (h3 < (h2.length : Int))))
        (Option.bind (laws_eqCellS k (rdr h1 h3.toNat) (rdr h2 h3.toNat)) fun x1 =>
          cond (!x1)
            (K1 false)
            (rec h1 h2 (IntKind.wrap .i64 (h3 + 1))))
        none)
      none)
    (K2)

def laws_eqCellSS_l0 {R : Type} (k : Nat) (K1 : Bool → Option R) (K2 : Option R) (h1 : List (List Int)) (h2 : List (List Int)) (h3 : Int) : Option R :=
  loopF (fun (rec : (List (List Int)) × (List (List Int)) × Int → Option R) (p : (List (List Int)) × (List (List Int)) × Int) => laws_eqCellSS_s0 k K1 K2 (fun h1 h2 h3 => rec (h1, h2, h3)) p.1 p.2.1 p.2.2) k (h1, h2, h3)

def laws_eqCellSS (k : Nat) (a1 : List (List Int)) (a2 : List (List Int)) : Option (Bool) :=
  cond ((a1.length : Int) != (a2.length : Int))
    (some false)
    (laws_eqCellSS_l0 k
      (fun y1 =>
        some y1)
      (some true)
      a1 a2 0)

def laws_FnExactFirstClash (k : Nat) (a1 : List Int) (a2 : List (List Int)) : Option (Bool) :=
  Option.bind (laws_szCellSS k a2 1048576) fun x1 =>
    cond (decide (x1 < 0))
      (some true)
      (Option.bind (laws_toLawn k a1) fun x2 =>
        Option.bind (laws_toCellSS k a2) fun x3 =>
          Option.bind (spec_FirstClash k x2 x3.1) fun x4 =>
            Option.bind (laws_toCellSS k a2) fun x5 =>
              Option.bind (laws_toLawn k a1) fun x6 =>
                Option.bind (impl_FirstClash k x6 x5.1) fun x7 =>
                  cond (x7.1 != x4.1)
                    (some false)
                    (cond (x7.2.1 != x4.2.1)
                      (some false)
                      (cond (x7.2.2.1 != x4.2.2.1)
                        (some false)
                        (cond (x7.2.2.2 != x4.2.2.2)
                          (some false)
                          (Option.bind (laws_toCellSS k a2) fun x8 =>
                            Option.bind (laws_eqCellSS k x5.1 x8.1) fun x9 =>
                              cond (!x9)
                                (some false)
                                (some true))))))


end Go.Proofs.Ytkdpdmfkomnalaa.Tt
