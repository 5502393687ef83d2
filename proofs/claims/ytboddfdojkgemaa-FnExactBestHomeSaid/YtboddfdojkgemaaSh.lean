/- The functions in plain Lean. -/
import Derived.Test.YtboddfdojkgemaaE6
set_option linter.unusedVariables false
set_option linter.unusedSimpArgs false
set_option linter.unusedVariables false
namespace Go.Proofs.Ytboddfdojkgemaa.Tt
open Go.Ev Go

def laws_toByteA10_s0 {R : Type} (k : Nat) (K1 : (List Int) → (List Int) → Option R) (rec : Int → (List Int) → (List Int) → (List Int) → Option R) (h1 : Int) (h2 : List Int) (h3 : List Int) (h4 : List Int) : Option R :=
  cond (decide (h1 < 10))
    (cond ((decide (0 ≤ h1)) && (decide (h1 < 10)))
      (cond ((decide (0 ≤ h1)) && (decide (h1 < 10)))
        (rec (IntKind.wrap .i64 (h1 + 1)) h2 h3 (List.set h4 (0 + h1.toNat * 1) (rd h2 (0 + h1.toNat * 1))))
        none)
      none)
    (K1 h3 h4)

def laws_toByteA10_l0 {R : Type} (k : Nat) (K1 : (List Int) → (List Int) → Option R) (h1 : Int) (h2 : List Int) (h3 : List Int) (h4 : List Int) : Option R :=
  loopF (fun (rec : Int × (List Int) × (List Int) × (List Int) → Option R) (p : Int × (List Int) × (List Int) × (List Int)) => laws_toByteA10_s0 k K1 (fun h1 h2 h3 h4 => rec (h1, h2, h3, h4)) p.1 p.2.1 p.2.2.1 p.2.2.2) k (h1, h2, h3, h4)

def laws_toByteA10 (k : Nat) (a1 : List Int) : Option ((List Int)) :=
  laws_toByteA10_l0 k
    (fun y1 y2 =>
      some y2)
    0 a1 [0, 0, 0, 0, 0, 0, 0, 0, 0, 0] [0, 0, 0, 0, 0, 0, 0, 0, 0, 0]

def laws_toByteA10A10_s0 {R : Type} (k : Nat) (K1 : (List Int) → (List Int) → Option R) (rec : Int → (List Int) → (List Int) → (List Int) → Option R) (h1 : Int) (h2 : List Int) (h3 : List Int) (h4 : List Int) : Option R :=
  cond (decide (h1 < 10))
    (cond ((decide (0 ≤ h1)) && (decide (h1 < 10)))
      (Option.bind (laws_toByteA10 k (win h2 (0 + h1.toNat * 10) 10)) fun x1 =>
        cond ((decide (0 ≤ h1)) && (decide (h1 < 10)))
          (rec (IntKind.wrap .i64 (h1 + 1)) h2 h3 (setWin h4 (0 + h1.toNat * 10) 10 x1))
          none)
      none)
    (K1 h3 h4)

def laws_toByteA10A10_l0 {R : Type} (k : Nat) (K1 : (List Int) → (List Int) → Option R) (h1 : Int) (h2 : List Int) (h3 : List Int) (h4 : List Int) : Option R :=
  loopF (fun (rec : Int × (List Int) × (List Int) × (List Int) → Option R) (p : Int × (List Int) × (List Int) × (List Int)) => laws_toByteA10A10_s0 k K1 (fun h1 h2 h3 h4 => rec (h1, h2, h3, h4)) p.1 p.2.1 p.2.2.1 p.2.2.2) k (h1, h2, h3, h4)

def laws_toByteA10A10 (k : Nat) (a1 : List Int) : Option ((List Int)) :=
  laws_toByteA10A10_l0 k
    (fun y1 y2 =>
      some y2)
    0 a1 (List.replicate 100 0) (List.replicate 100 0)

def laws_toLawn (k : Nat) (a1 : List Int) : Option ((List Int)) :=
  Option.bind (laws_toByteA10A10 k (win a1 2 100)) fun x1 =>
    some (setWin (List.set (List.set (List.replicate 102 0) 0 (rd a1 0)) 1 (rd a1 1)) 2 100 x1)

def spec_l00In (k : Nat) (a1 : Int) (a2 : Int) (a3 : Int) : Option (Bool) :=
  cond (decide (a1 ≥ a2))
    (some (decide (a1 ≤ a3)))
    (some false)

def spec_l01Side (k : Nat) (a1 : Int) : Option (Bool) :=
  Option.bind (spec_l00In k a1 1 10) fun x1 =>
    some x1

def spec_l01Kind (k : Nat) (a1 : Int) : Option (Bool) :=
  Option.bind (spec_l00In k a1 0 3) fun x1 =>
    some x1

def spec_l01Is (k : Nat) (a1 : List Int) (a2 : List Int) : Option (Bool) :=
  Option.bind (spec_l00In k (IntKind.wrap .i64 (rd a2 0)) 0 (IntKind.wrap .i64 ((IntKind.wrap .i64 (rd a1 0)) - 1))) fun x1 =>
    cond x1
      (Option.bind (spec_l00In k (IntKind.wrap .i64 (rd a2 1)) 0 (IntKind.wrap .i64 ((IntKind.wrap .i64 (rd a1 1)) - 1))) fun x2 =>
        some x2)
      (some false)

def spec_l01Ok_s0 {R : Type} (k : Nat) (K1 : Bool → Option R) (K2 : (List Int) → Int → Option R) (rec : (List Int) → Int → Int → Option R) (h1 : List Int) (h2 : Int) (h3 : Int) : Option R :=
  cond (decide (h3 < 10))
    (cond ((decide (0 ≤ h2)) && (decide (h2 < 10)))
      (cond ((decide (0 ≤ h3)) && (decide (h3 < 10)))
        (Option.bind (spec_l01Kind k (IntKind.wrap .i64 (rd h1 ((2 + h2.toNat * 10) + h3.toNat * 1)))) fun x1 =>
          cond (!x1)
            (K1 false)
            (cond ((IntKind.wrap .i64 (rd h1 ((2 + h2.toNat * 10) + h3.toNat * 1))) != 0)
              (Option.bind (spec_l01Is k h1 [h3, h2]) fun x2 =>
                cond (!x2)
                  (K1 false)
                  (rec h1 h2 (IntKind.wrap .i8 (h3 + 1))))
              (rec h1 h2 (IntKind.wrap .i8 (h3 + 1)))))
        none)
      none)
    (K2 h1 h2)

def spec_l01Ok_l0 {R : Type} (k : Nat) (K1 : Bool → Option R) (K2 : (List Int) → Int → Option R) (h1 : List Int) (h2 : Int) (h3 : Int) : Option R :=
  loopF (fun (rec : (List Int) × Int × Int → Option R) (p : (List Int) × Int × Int) => spec_l01Ok_s0 k K1 K2 (fun h1 h2 h3 => rec (h1, h2, h3)) p.1 p.2.1 p.2.2) k (h1, h2, h3)

def spec_l01Ok_s1 {R : Type} (k : Nat) (K1 : Bool → Option R) (K2 : Option R) (rec : (List Int) → Int → Option R) (h1 : List Int) (h2 : Int) : Option R :=
  cond (decide (h2 < 10))
    (spec_l01Ok_l0 k
      (fun y1 =>
        K1 y1)
      (fun y2 y3 =>
        rec y2 (IntKind.wrap .i8 (y3 + 1)))
      h1 h2 0)
    (K2)

def spec_l01Ok_l1 {R : Type} (k : Nat) (K1 : Bool → Option R) (K2 : Option R) (h1 : List Int) (h2 : Int) : Option R :=
  loopF (fun (rec : (List Int) × Int → Option R) (p : (List Int) × Int) => spec_l01Ok_s1 k K1 K2 (fun h1 h2 => rec (h1, h2)) p.1 p.2) k (h1, h2)

def spec_l01Ok (k : Nat) (a1 : List Int) : Option (Bool) :=
  Option.bind (spec_l01Side k (IntKind.wrap .i64 (rd a1 0))) fun x1 =>
    cond (!x1)
      (some false)
      (Option.bind (spec_l01Side k (IntKind.wrap .i64 (rd a1 1))) fun x2 =>
        cond (!x2)
          (some false)
          (spec_l01Ok_l1 k
            (fun y3 =>
              some y3)
            (some true)
            a1 0))

def spec_l01All_s0 {R : Type} (k : Nat) (K1 : (List Int) → Int → (List Int) → Option R) (rec : (List Int) → Int → Int → (List Int) → Option R) (h1 : List Int) (h2 : Int) (h3 : Int) (h4 : List Int) : Option R :=
  cond (decide (h3 < (rd h1 0)))
    (cond (decide (h4.length + 2 ≤ bigLen))
      (rec h1 h2 (IntKind.wrap .i8 (h3 + 1)) (h4 ++ [h3, h2]))
      none)
    (K1 h1 h2 h4)

def spec_l01All_l0 {R : Type} (k : Nat) (K1 : (List Int) → Int → (List Int) → Option R) (h1 : List Int) (h2 : Int) (h3 : Int) (h4 : List Int) : Option R :=
  loopF (fun (rec : (List Int) × Int × Int × (List Int) → Option R) (p : (List Int) × Int × Int × (List Int)) => spec_l01All_s0 k K1 (fun h1 h2 h3 h4 => rec (h1, h2, h3, h4)) p.1 p.2.1 p.2.2.1 p.2.2.2) k (h1, h2, h3, h4)

def spec_l01All_s1 {R : Type} (k : Nat) (K1 : (List Int) → Option R) (rec : (List Int) → Int → (List Int) → Option R) (h1 : List Int) (h2 : Int) (h3 : List Int) : Option R :=
  cond (decide (h2 < (rd h1 1)))
    (spec_l01All_l0 k
      (fun y1 y2 y3 =>
        rec y1 (IntKind.wrap .i8 (y2 + 1)) y3)
      h1 h2 0 h3)
    (K1 h3)

def spec_l01All_l1 {R : Type} (k : Nat) (K1 : (List Int) → Option R) (h1 : List Int) (h2 : Int) (h3 : List Int) : Option R :=
  loopF (fun (rec : (List Int) × Int × (List Int) → Option R) (p : (List Int) × Int × (List Int)) => spec_l01All_s1 k K1 (fun h1 h2 h3 => rec (h1, h2, h3)) p.1 p.2.1 p.2.2) k (h1, h2, h3)

def spec_l01All (k : Nat) (a1 : List Int) : Option ((List Int)) :=
  spec_l01All_l1 k
    (fun y1 =>
      some y1)
    a1 0 []

def spec_l01At (k : Nat) (a1 : List Int) (a2 : List Int) : Option (Int) :=
  cond ((decide (0 ≤ (rd a2 1))) && (decide ((rd a2 1) < 10)))
    (cond ((decide (0 ≤ (rd a2 0))) && (decide ((rd a2 0) < 10)))
      (some (IntKind.wrap .i64 (rd a1 ((2 + (rd a2 1).toNat * 10) + (rd a2 0).toNat * 1))))
      none)
    none

def spec_l01Open (k : Nat) (a1 : List Int) (a2 : List Int) : Option (Bool) :=
  Option.bind (spec_l01At k a1 [(rd a2 0), (rd a2 1)]) fun x1 =>
    cond (x1 == 0)
      (some true)
      (Option.bind (spec_l01At k a1 [(rd a2 0), (rd a2 1)]) fun x2 =>
        some (x2 == 3))

def spec_l01Beside_s0 {R : Type} (k : Nat) (K1 : (List Int) → Option R) (rec : (List Int) → Int → (List Int) → (List Int) → Option R) (h1 : List Int) (h2 : Int) (h3 : List Int) (h4 : List Int) : Option R :=
  cond (decide (h2 < ((cnt 2 h3) : Int)))
    (cond ((decide (0 ≤ h2)) && (decide (h2 < ((cnt 2 h3) : Int))))
      (Option.bind (spec_l01Is k h1 [(rd h3 (h2.toNat * 2)), (rd h3 ((h2.toNat * 2) + 1))]) fun x1 =>
        cond x1
          (cond ((decide (0 ≤ h2)) && (decide (h2 < ((cnt 2 h3) : Int))))
            (cond (decide (h4.length + 2 ≤ bigLen))
              (rec h1 (IntKind.wrap .i64 (h2 + 1)) h3 (h4 ++ [(rd h3 (h2.toNat * 2)), (rd h3 ((h2.toNat * 2) + 1))]))
              none)
            none)
          (rec h1 (IntKind.wrap .i64 (h2 + 1)) h3 h4))
      none)
    (K1 h4)

def spec_l01Beside_l0 {R : Type} (k : Nat) (K1 : (List Int) → Option R) (h1 : List Int) (h2 : Int) (h3 : List Int) (h4 : List Int) : Option R :=
  loopF (fun (rec : (List Int) × Int × (List Int) × (List Int) → Option R) (p : (List Int) × Int × (List Int) × (List Int)) => spec_l01Beside_s0 k K1 (fun h1 h2 h3 h4 => rec (h1, h2, h3, h4)) p.1 p.2.1 p.2.2.1 p.2.2.2) k (h1, h2, h3, h4)

def spec_l01Beside (k : Nat) (a1 : List Int) (a2 : List Int) : Option ((List Int)) :=
  spec_l01Beside_l0 k
    (fun y1 =>
      some y1)
    a1 0 [(rd a2 0), (IntKind.wrap .i8 ((rd a2 1) - 1)), (IntKind.wrap .i8 ((rd a2 0) - 1)), (rd a2 1), (IntKind.wrap .i8 ((rd a2 0) + 1)), (rd a2 1), (rd a2 0), (IntKind.wrap .i8 ((rd a2 1) + 1))] []

def spec_l01Reach_s0 {R : Type} (k : Nat) (K1 : (List Int) → Bool → Int → (List Int) → (List Int) → (List Int) → Option R) (rec : (List Int) → Bool → Int → Int → (List Int) → (List Int) → (List Int) → Option R) (h1 : List Int) (h2 : Bool) (h3 : Int) (h4 : Int) (h5 : List Int) (h6 : List Int) (h7 : List Int) : Option R :=
  cond (decide (h4 < 10))
    (cond ((decide (0 ≤ h3)) && (decide (h3 < 10)))
      (cond ((decide (0 ≤ h4)) && (decide (h4 < 10)))
        (rec h1 h2 h3 (IntKind.wrap .i64 (h4 + 1)) h5 h6 (List.set h7 ((0 + h3.toNat * 10) + h4.toNat * 1) (-1)))
        none)
      none)
    (K1 h1 h2 h3 h5 h6 h7)

def spec_l01Reach_l0 {R : Type} (k : Nat) (K1 : (List Int) → Bool → Int → (List Int) → (List Int) → (List Int) → Option R) (h1 : List Int) (h2 : Bool) (h3 : Int) (h4 : Int) (h5 : List Int) (h6 : List Int) (h7 : List Int) : Option R :=
  loopF (fun (rec : (List Int) × Bool × Int × Int × (List Int) × (List Int) × (List Int) → Option R) (p : (List Int) × Bool × Int × Int × (List Int) × (List Int) × (List Int)) => spec_l01Reach_s0 k K1 (fun h1 h2 h3 h4 h5 h6 h7 => rec (h1, h2, h3, h4, h5, h6, h7)) p.1 p.2.1 p.2.2.1 p.2.2.2.1 p.2.2.2.2.1 p.2.2.2.2.2.1 p.2.2.2.2.2.2) k (h1, h2, h3, h4, h5, h6, h7)

def spec_l01Reach_s1 {R : Type} (k : Nat) (K1 : (List Int) → Bool → (List Int) → (List Int) → (List Int) → Option R) (rec : (List Int) → Bool → Int → (List Int) → (List Int) → (List Int) → Option R) (h1 : List Int) (h2 : Bool) (h3 : Int) (h4 : List Int) (h5 : List Int) (h6 : List Int) : Option R :=
  cond (decide (h3 < 10))
    (spec_l01Reach_l0 k
      (fun y1 y2 y3 y4 y5 y6 =>
        rec y1 y2 (IntKind.wrap .i64 (y3 + 1)) y4 y5 y6)
      h1 h2 h3 0 h4 h5 h6)
    (K1 h1 h2 h4 h5 h6)

def spec_l01Reach_l1 {R : Type} (k : Nat) (K1 : (List Int) → Bool → (List Int) → (List Int) → (List Int) → Option R) (h1 : List Int) (h2 : Bool) (h3 : Int) (h4 : List Int) (h5 : List Int) (h6 : List Int) : Option R :=
  loopF (fun (rec : (List Int) × Bool × Int × (List Int) × (List Int) × (List Int) → Option R) (p : (List Int) × Bool × Int × (List Int) × (List Int) × (List Int)) => spec_l01Reach_s1 k K1 (fun h1 h2 h3 h4 h5 h6 => rec (h1, h2, h3, h4, h5, h6)) p.1 p.2.1 p.2.2.1 p.2.2.2.1 p.2.2.2.2.1 p.2.2.2.2.2) k (h1, h2, h3, h4, h5, h6)

def spec_l01Reach_s2 {R : Type} (k : Nat) (K1 : (List Int) → Bool → Int → (List Int) → (List Int) → (List Int) → Option R) (rec : (List Int) → Bool → Int → Int → (List Int) → (List Int) → (List Int) → (List Int) → Option R) (h1 : List Int) (h2 : Bool) (h3 : Int) (h4 : Int) (h5 : List Int) (h6 : List Int) (h7 : List Int) (h8 : List Int) : Option R :=
  cond (decide (h4 < ((cnt 2 h8) : Int)))
    (cond ((decide (0 ≤ h4)) && (decide (h4 < ((cnt 2 h8) : Int))))
      (Option.bind (spec_l01Open k h1 [(rd h8 (h4.toNat * 2)), (rd h8 ((h4.toNat * 2) + 1))]) fun x1 =>
        cond (!x1)
          (rec h1 h2 h3 (IntKind.wrap .i64 (h4 + 1)) h5 h6 h7 h8)
          (cond h2
            (cond ((decide (0 ≤ h4)) && (decide (h4 < ((cnt 2 h8) : Int))))
              (Option.bind (spec_l01At k h1 [(rd h8 (h4.toNat * 2)), (rd h8 ((h4.toNat * 2) + 1))]) fun x2 =>
                cond (x2 != 0)
                  (rec h1 h2 h3 (IntKind.wrap .i64 (h4 + 1)) h5 h6 h7 h8)
                  (cond ((decide (0 ≤ h4)) && (decide (h4 < ((cnt 2 h8) : Int))))
                    (cond ((decide (0 ≤ h4)) && (decide (h4 < ((cnt 2 h8) : Int))))
                      (cond ((decide (0 ≤ (rd h8 ((h4.toNat * 2) + 1)))) && (decide ((rd h8 ((h4.toNat * 2) + 1)) < 10)))
                        (cond ((decide (0 ≤ (rd h8 (h4.toNat * 2)))) && (decide ((rd h8 (h4.toNat * 2)) < 10)))
                          (cond (decide ((rd h6 ((0 + (rd h8 ((h4.toNat * 2) + 1)).toNat * 10) + (rd h8 (h4.toNat * 2)).toNat * 1)) ≥ 0))
                            (rec h1 h2 h3 (IntKind.wrap .i64 (h4 + 1)) h5 h6 h7 h8)
                            (cond ((decide (0 ≤ h4)) && (decide (h4 < ((cnt 2 h8) : Int))))
                              (cond ((decide (0 ≤ h4)) && (decide (h4 < ((cnt 2 h8) : Int))))
                                (cond ((decide (0 ≤ h3)) && (decide (h3 < ((cnt 2 h7) : Int))))
                                  (cond ((decide (0 ≤ h3)) && (decide (h3 < ((cnt 2 h7) : Int))))
                                    (cond ((decide (0 ≤ (rd h7 ((h3.toNat * 2) + 1)))) && (decide ((rd h7 ((h3.toNat * 2) + 1)) < 10)))
                                      (cond ((decide (0 ≤ (rd h7 (h3.toNat * 2)))) && (decide ((rd h7 (h3.toNat * 2)) < 10)))
                                        (cond ((decide (0 ≤ (rd h8 ((h4.toNat * 2) + 1)))) && (decide ((rd h8 ((h4.toNat * 2) + 1)) < 10)))
                                          (cond ((decide (0 ≤ (rd h8 (h4.toNat * 2)))) && (decide ((rd h8 (h4.toNat * 2)) < 10)))
                                            (cond ((decide (0 ≤ h4)) && (decide (h4 < ((cnt 2 h8) : Int))))
                                              (cond (decide (h7.length + 2 ≤ bigLen))
                                                (rec h1 h2 h3 (IntKind.wrap .i64 (h4 + 1)) h5 (List.set h6 ((0 + (rd h8 ((h4.toNat * 2) + 1)).toNat * 10) + (rd h8 (h4.toNat * 2)).toNat * 1) (IntKind.wrap .i64 ((rd h6 ((0 + (rd h7 ((h3.toNat * 2) + 1)).toNat * 10) + (rd h7 (h3.toNat * 2)).toNat * 1)) + 1))) (h7 ++ [(rd h8 (h4.toNat * 2)), (rd h8 ((h4.toNat * 2) + 1))]) h8)
                                                none)
                                              none)
                                            none)
                                          none)
                                        none)
                                      none)
                                    none)
                                  none)
                                none)
                              none))
                          none)
                        none)
                      none)
                    none))
              none)
            (cond ((decide (0 ≤ h4)) && (decide (h4 < ((cnt 2 h8) : Int))))
              (cond ((decide (0 ≤ h4)) && (decide (h4 < ((cnt 2 h8) : Int))))
                (cond ((decide (0 ≤ (rd h8 ((h4.toNat * 2) + 1)))) && (decide ((rd h8 ((h4.toNat * 2) + 1)) < 10)))
                  (cond ((decide (0 ≤ (rd h8 (h4.toNat * 2)))) && (decide ((rd h8 (h4.toNat * 2)) < 10)))
                    (cond (decide ((rd h6 ((0 + (rd h8 ((h4.toNat * 2) + 1)).toNat * 10) + (rd h8 (h4.toNat * 2)).toNat * 1)) ≥ 0))
                      (rec h1 h2 h3 (IntKind.wrap .i64 (h4 + 1)) h5 h6 h7 h8)
                      (cond ((decide (0 ≤ h4)) && (decide (h4 < ((cnt 2 h8) : Int))))
                        (cond ((decide (0 ≤ h4)) && (decide (h4 < ((cnt 2 h8) : Int))))
                          (cond ((decide (0 ≤ h3)) && (decide (h3 < ((cnt 2 h7) : Int))))
                            (cond ((decide (0 ≤ h3)) && (decide (h3 < ((cnt 2 h7) : Int))))
                              (cond ((decide (0 ≤ (rd h7 ((h3.toNat * 2) + 1)))) && (decide ((rd h7 ((h3.toNat * 2) + 1)) < 10)))
                                (cond ((decide (0 ≤ (rd h7 (h3.toNat * 2)))) && (decide ((rd h7 (h3.toNat * 2)) < 10)))
                                  (cond ((decide (0 ≤ (rd h8 ((h4.toNat * 2) + 1)))) && (decide ((rd h8 ((h4.toNat * 2) + 1)) < 10)))
                                    (cond ((decide (0 ≤ (rd h8 (h4.toNat * 2)))) && (decide ((rd h8 (h4.toNat * 2)) < 10)))
                                      (cond ((decide (0 ≤ h4)) && (decide (h4 < ((cnt 2 h8) : Int))))
                                        (cond (decide (h7.length + 2 ≤ bigLen))
                                          (rec h1 h2 h3 (IntKind.wrap .i64 (h4 + 1)) h5 (List.set h6 ((0 + (rd h8 ((h4.toNat * 2) + 1)).toNat * 10) + (rd h8 (h4.toNat * 2)).toNat * 1) (IntKind.wrap .i64 ((rd h6 ((0 + (rd h7 ((h3.toNat * 2) + 1)).toNat * 10) + (rd h7 (h3.toNat * 2)).toNat * 1)) + 1))) (h7 ++ [(rd h8 (h4.toNat * 2)), (rd h8 ((h4.toNat * 2) + 1))]) h8)
                                          none)
                                        none)
                                      none)
                                    none)
                                  none)
                                none)
                              none)
                            none)
                          none)
                        none))
                    none)
                  none)
                none)
              none)))
      none)
    (K1 h1 h2 h3 h5 h6 h7)

def spec_l01Reach_l2 {R : Type} (k : Nat) (K1 : (List Int) → Bool → Int → (List Int) → (List Int) → (List Int) → Option R) (h1 : List Int) (h2 : Bool) (h3 : Int) (h4 : Int) (h5 : List Int) (h6 : List Int) (h7 : List Int) (h8 : List Int) : Option R :=
  loopF (fun (rec : (List Int) × Bool × Int × Int × (List Int) × (List Int) × (List Int) × (List Int) → Option R) (p : (List Int) × Bool × Int × Int × (List Int) × (List Int) × (List Int) × (List Int)) => spec_l01Reach_s2 k K1 (fun h1 h2 h3 h4 h5 h6 h7 h8 => rec (h1, h2, h3, h4, h5, h6, h7, h8)) p.1 p.2.1 p.2.2.1 p.2.2.2.1 p.2.2.2.2.1 p.2.2.2.2.2.1 p.2.2.2.2.2.2.1 p.2.2.2.2.2.2.2) k (h1, h2, h3, h4, h5, h6, h7, h8)

def spec_l01Reach_s3 {R : Type} (k : Nat) (K1 : (List Int) → (List Int) → Option R) (rec : (List Int) → Bool → Int → (List Int) → (List Int) → (List Int) → Option R) (h1 : List Int) (h2 : Bool) (h3 : Int) (h4 : List Int) (h5 : List Int) (h6 : List Int) : Option R :=
  cond (decide (h3 < ((cnt 2 h6) : Int)))
    (cond ((decide (0 ≤ h3)) && (decide (h3 < ((cnt 2 h6) : Int))))
      (Option.bind (spec_l01Beside k h1 [(rd h6 (h3.toNat * 2)), (rd h6 ((h3.toNat * 2) + 1))]) fun x1 =>
        spec_l01Reach_l2 k
          (fun y2 y3 y4 y5 y6 y7 =>
            rec y2 y3 (IntKind.wrap .i64 (y4 + 1)) y5 y6 y7)
          h1 h2 h3 0 h4 h5 h6 x1)
      none)
    (K1 h4 h5)

def spec_l01Reach_l3 {R : Type} (k : Nat) (K1 : (List Int) → (List Int) → Option R) (h1 : List Int) (h2 : Bool) (h3 : Int) (h4 : List Int) (h5 : List Int) (h6 : List Int) : Option R :=
  loopF (fun (rec : (List Int) × Bool × Int × (List Int) × (List Int) × (List Int) → Option R) (p : (List Int) × Bool × Int × (List Int) × (List Int) × (List Int)) => spec_l01Reach_s3 k K1 (fun h1 h2 h3 h4 h5 h6 => rec (h1, h2, h3, h4, h5, h6)) p.1 p.2.1 p.2.2.1 p.2.2.2.1 p.2.2.2.2.1 p.2.2.2.2.2) k (h1, h2, h3, h4, h5, h6)

def spec_l01Reach (k : Nat) (a1 : List Int) (a2 : List Int) (a3 : Bool) : Option ((List Int)) :=
  spec_l01Reach_l1 k
    (fun y1 y2 y3 y4 y5 =>
      cond ((decide (0 ≤ (rd y3 1))) && (decide ((rd y3 1) < 10)))
        (cond ((decide (0 ≤ (rd y3 0))) && (decide ((rd y3 0) < 10)))
          (spec_l01Reach_l3 k
            (fun y6 y7 =>
              some y7)
            y1 y2 0 y4 (List.set y5 ((0 + (rd y3 1).toNat * 10) + (rd y3 0).toNat * 1) 0) [(rd y3 0), (rd y3 1)])
          none)
        none)
    a1 a3 0 a2 (List.replicate 100 0) (List.replicate 100 0)

def spec_l01Cells_s0 {R : Type} (k : Nat) (K1 : (List Int) → Option R) (rec : (List Int) → Int → Int → (List Int) → (List Int) → Option R) (h1 : List Int) (h2 : Int) (h3 : Int) (h4 : List Int) (h5 : List Int) : Option R :=
  cond (decide (h3 < ((cnt 2 h5) : Int)))
    (cond ((decide (0 ≤ h3)) && (decide (h3 < ((cnt 2 h5) : Int))))
      (Option.bind (spec_l01At k h1 [(rd h5 (h3.toNat * 2)), (rd h5 ((h3.toNat * 2) + 1))]) fun x1 =>
        cond (x1 == h2)
          (cond ((decide (0 ≤ h3)) && (decide (h3 < ((cnt 2 h5) : Int))))
            (cond (decide (h4.length + 2 ≤ bigLen))
              (rec h1 h2 (IntKind.wrap .i64 (h3 + 1)) (h4 ++ [(rd h5 (h3.toNat * 2)), (rd h5 ((h3.toNat * 2) + 1))]) h5)
              none)
            none)
          (rec h1 h2 (IntKind.wrap .i64 (h3 + 1)) h4 h5))
      none)
    (K1 h4)

def spec_l01Cells_l0 {R : Type} (k : Nat) (K1 : (List Int) → Option R) (h1 : List Int) (h2 : Int) (h3 : Int) (h4 : List Int) (h5 : List Int) : Option R :=
  loopF (fun (rec : (List Int) × Int × Int × (List Int) × (List Int) → Option R) (p : (List Int) × Int × Int × (List Int) × (List Int)) => spec_l01Cells_s0 k K1 (fun h1 h2 h3 h4 h5 => rec (h1, h2, h3, h4, h5)) p.1 p.2.1 p.2.2.1 p.2.2.2.1 p.2.2.2.2) k (h1, h2, h3, h4, h5)

def spec_l01Cells (k : Nat) (a1 : List Int) (a2 : Int) : Option ((List Int)) :=
  Option.bind (spec_l01All k a1) fun x1 =>
    spec_l01Cells_l0 k
      (fun y2 =>
        some y2)
      a1 a2 0 [] x1

def spec_l00Max (k : Nat) (a1 : Int) (a2 : Int) : Option (Int) :=
  cond (decide (a1 > a2))
    (some a1)
    (some a2)

def spec_l04Least_s0 {R : Type} (k : Nat) (K1 : Int → Bool → Option R) (rec : Int → Bool → Int → (List Int) → (List Int) → Option R) (h1 : Int) (h2 : Bool) (h3 : Int) (h4 : List Int) (h5 : List Int) : Option R :=
  cond (decide (h3 < ((cnt 2 h5) : Int)))
    (cond ((decide (0 ≤ h3)) && (decide (h3 < ((cnt 2 h5) : Int))))
      (cond ((decide (0 ≤ h3)) && (decide (h3 < ((cnt 2 h5) : Int))))
        (cond ((decide (0 ≤ (rd h5 ((h3.toNat * 2) + 1)))) && (decide ((rd h5 ((h3.toNat * 2) + 1)) < 10)))
          (cond ((decide (0 ≤ (rd h5 (h3.toNat * 2)))) && (decide ((rd h5 (h3.toNat * 2)) < 10)))
            (Option.bind (spec_l00Max k h1 (rd h4 ((0 + (rd h5 ((h3.toNat * 2) + 1)).toNat * 10) + (rd h5 (h3.toNat * 2)).toNat * 1))) fun x1 =>
              cond h2
                (rec x1 (decide ((rd h4 ((0 + (rd h5 ((h3.toNat * 2) + 1)).toNat * 10) + (rd h5 (h3.toNat * 2)).toNat * 1)) ≥ 0)) (IntKind.wrap .i64 (h3 + 1)) h4 h5)
                (rec x1 false (IntKind.wrap .i64 (h3 + 1)) h4 h5))
            none)
          none)
        none)
      none)
    (K1 h1 h2)

def spec_l04Least_l0 {R : Type} (k : Nat) (K1 : Int → Bool → Option R) (h1 : Int) (h2 : Bool) (h3 : Int) (h4 : List Int) (h5 : List Int) : Option R :=
  loopF (fun (rec : Int × Bool × Int × (List Int) × (List Int) → Option R) (p : Int × Bool × Int × (List Int) × (List Int)) => spec_l04Least_s0 k K1 (fun h1 h2 h3 h4 h5 => rec (h1, h2, h3, h4, h5)) p.1 p.2.1 p.2.2.1 p.2.2.2.1 p.2.2.2.2) k (h1, h2, h3, h4, h5)

def spec_l04Least (k : Nat) (a1 : List Int) (a2 : List Int) : Option (Int × Bool) :=
  Option.bind (spec_l01Reach k a1 [(rd a2 0), (rd a2 1)] false) fun x1 =>
    Option.bind (spec_l01Cells k a1 0) fun x2 =>
      spec_l04Least_l0 k
        (fun y3 y4 =>
          some ((IntKind.wrap .i64 (2 * y3)), y4))
        0 true 0 x1 x2

def spec_BestHome_s0 {R : Type} (k : Nat) (K1 : Int → (List Int) → (List Int) → Option R) (rec : Int → Int → (List Int) → (List Int) → (List Int) → (List Int) → Option R) (h1 : Int) (h2 : Int) (h3 : List Int) (h4 : List Int) (h5 : List Int) (h6 : List Int) : Option R :=
  cond (decide (h2 < ((cnt 2 h6) : Int)))
    (cond ((decide (0 ≤ h2)) && (decide (h2 < ((cnt 2 h6) : Int))))
      (Option.bind (spec_l01Open k h3 [(rd h6 (h2.toNat * 2)), (rd h6 ((h2.toNat * 2) + 1))]) fun x1 =>
        cond (!x1)
          (rec h1 (IntKind.wrap .i64 (h2 + 1)) h3 h4 h5 h6)
          (cond ((decide (0 ≤ h2)) && (decide (h2 < ((cnt 2 h6) : Int))))
            (Option.bind (spec_l04Least k h3 [(rd h6 (h2.toNat * 2)), (rd h6 ((h2.toNat * 2) + 1))]) fun x2 =>
              cond x2.2
                (cond (decide (h1 < 0))
                  (cond ((decide (0 ≤ h2)) && (decide (h2 < ((cnt 2 h6) : Int))))
                    (rec x2.1 (IntKind.wrap .i64 (h2 + 1)) h3 h4 [(rd h6 (h2.toNat * 2)), (rd h6 ((h2.toNat * 2) + 1))] h6)
                    none)
                  (cond (decide (x2.1 < h1))
                    (cond ((decide (0 ≤ h2)) && (decide (h2 < ((cnt 2 h6) : Int))))
                      (rec x2.1 (IntKind.wrap .i64 (h2 + 1)) h3 h4 [(rd h6 (h2.toNat * 2)), (rd h6 ((h2.toNat * 2) + 1))] h6)
                      none)
                    (rec h1 (IntKind.wrap .i64 (h2 + 1)) h3 h4 h5 h6)))
                (rec h1 (IntKind.wrap .i64 (h2 + 1)) h3 h4 h5 h6))
            none))
      none)
    (K1 h1 h4 h5)

def spec_BestHome_l0 {R : Type} (k : Nat) (K1 : Int → (List Int) → (List Int) → Option R) (h1 : Int) (h2 : Int) (h3 : List Int) (h4 : List Int) (h5 : List Int) (h6 : List Int) : Option R :=
  loopF (fun (rec : Int × Int × (List Int) × (List Int) × (List Int) × (List Int) → Option R) (p : Int × Int × (List Int) × (List Int) × (List Int) × (List Int)) => spec_BestHome_s0 k K1 (fun h1 h2 h3 h4 h5 h6 => rec (h1, h2, h3, h4, h5, h6)) p.1 p.2.1 p.2.2.1 p.2.2.2.1 p.2.2.2.2.1 p.2.2.2.2.2) k (h1, h2, h3, h4, h5, h6)

def spec_BestHome (k : Nat) (a1 : List Int) : Option ((List Int) × Int × Int) :=
  Option.bind (spec_l01Ok k a1) fun x1 =>
    cond (!x1)
      (some ([0, 0], 0, 1))
      (Option.bind (spec_l01All k a1) fun x2 =>
        spec_BestHome_l0 k
          (fun y3 y4 y5 =>
            cond (decide (y3 < 0))
              (some ([0, 0], 0, 6))
              (some ([(rd y5 0), (rd y5 1)], y3, 0)))
          (-1) 0 a1 [0, 0] [0, 0] x2)

def impl_within (k : Nat) (a1 : Int) (a2 : Int) (a3 : Int) : Option (Bool) :=
  cond (decide (a2 ≤ a1))
    (some (decide (a1 ≤ a3)))
    (some false)

def impl_Lawn_has (k : Nat) (a1 : List Int) (a2 : List Int) : Option (Bool) :=
  cond (decide ((rd a2 0) ≥ 0))
    (cond (decide ((rd a2 0) < (rd a1 0)))
      (cond (decide ((rd a2 1) ≥ 0))
        (some (decide ((rd a2 1) < (rd a1 1))))
        (some false))
      (some false))
    (some false)

def impl_ValidLawn_s0 {R : Type} (k : Nat) (K1 : Bool → Option R) (K2 : Int → (List Int) → Option R) (rec : Int → Int → Int → (List Int) → Option R) (h1 : Int) (h2 : Int) (h3 : Int) (h4 : List Int) : Option R :=
  cond (decide (h3 < 10))
    (cond ((decide (0 ≤ h1)) && (decide (h1 < 10)))
      (cond ((decide (0 ≤ h3)) && (decide (h3 < 10)))
        (cond (decide ((rd h4 ((2 + h1.toNat * 10) + h3.toNat * 1)) > 3))
          (K1 false)
          (cond ((rd h4 ((2 + h1.toNat * 10) + h3.toNat * 1)) != 0)
            (Option.bind (impl_Lawn_has k h4 [h3, h1]) fun x1 =>
              cond (!x1)
                (K1 false)
                (rec h1 h2 (IntKind.wrap .i8 (h3 + 1)) h4))
            (rec h1 h2 (IntKind.wrap .i8 (h3 + 1)) h4)))
        none)
      none)
    (K2 h2 h4)

def impl_ValidLawn_l0 {R : Type} (k : Nat) (K1 : Bool → Option R) (K2 : Int → (List Int) → Option R) (h1 : Int) (h2 : Int) (h3 : Int) (h4 : List Int) : Option R :=
  loopF (fun (rec : Int × Int × Int × (List Int) → Option R) (p : Int × Int × Int × (List Int)) => impl_ValidLawn_s0 k K1 K2 (fun h1 h2 h3 h4 => rec (h1, h2, h3, h4)) p.1 p.2.1 p.2.2.1 p.2.2.2) k (h1, h2, h3, h4)

def impl_ValidLawn_s1 {R : Type} (k : Nat) (K1 : Bool → Option R) (K2 : Option R) (rec : Int → (List Int) → Option R) (h1 : Int) (h2 : List Int) : Option R :=
  cond (decide (h1 < 10))
    (impl_ValidLawn_l0 k
      (fun y1 =>
        K1 y1)
      (fun y2 y3 =>
        rec (IntKind.wrap .i8 (y2 + 1)) y3)
      h1 h1 0 h2)
    (K2)

def impl_ValidLawn_l1 {R : Type} (k : Nat) (K1 : Bool → Option R) (K2 : Option R) (h1 : Int) (h2 : List Int) : Option R :=
  loopF (fun (rec : Int × (List Int) → Option R) (p : Int × (List Int)) => impl_ValidLawn_s1 k K1 K2 (fun h1 h2 => rec (h1, h2)) p.1 p.2) k (h1, h2)

def impl_ValidLawn (k : Nat) (a1 : List Int) : Option (Bool) :=
  Option.bind (impl_within k (IntKind.wrap .i64 (rd a1 0)) 1 10) fun x1 =>
    cond (!x1)
      (some false)
      (Option.bind (impl_within k (IntKind.wrap .i64 (rd a1 1)) 1 10) fun x2 =>
        cond (!x2)
          (some false)
          (impl_ValidLawn_l1 k
            (fun y3 =>
              some y3)
            (some true)
            0 a1))

def impl_Lawn_kind (k : Nat) (a1 : List Int) (a2 : List Int) : Option (Int) :=
  cond ((decide (0 ≤ (rd a2 1))) && (decide ((rd a2 1) < 10)))
    (cond ((decide (0 ≤ (rd a2 0))) && (decide ((rd a2 0) < 10)))
      (some (IntKind.wrap .i64 (rd a1 ((2 + (rd a2 1).toNat * 10) + (rd a2 0).toNat * 1))))
      none)
    none

def impl_Lawn_is (k : Nat) (a1 : List Int) (a2 : List Int) (a3 : Int) : Option (Bool) :=
  Option.bind (impl_Lawn_has k a1 [(rd a2 0), (rd a2 1)]) fun x1 =>
    cond x1
      (Option.bind (impl_Lawn_kind k a1 [(rd a2 0), (rd a2 1)]) fun x2 =>
        some (x2 == a3))
      (some false)

def impl_Lawn_open (k : Nat) (a1 : List Int) (a2 : List Int) : Option (Bool) :=
  Option.bind (impl_Lawn_is k a1 [(rd a2 0), (rd a2 1)] 0) fun x1 =>
    cond x1
      (some true)
      (Option.bind (impl_Lawn_is k a1 [(rd a2 0), (rd a2 1)] 3) fun x2 =>
        some x2)

def impl_Lawn_all_s0 {R : Type} (k : Nat) (K1 : Int → Int → (List Int) → (List Int) → Option R) (rec : Int → Int → Int → Int → Int → (List Int) → (List Int) → Option R) (h1 : Int) (h2 : Int) (h3 : Int) (h4 : Int) (h5 : Int) (h6 : List Int) (h7 : List Int) : Option R :=
  cond (decide (h5 < h4))
    (cond (decide (h7.length + 2 ≤ bigLen))
      (rec h1 h2 h3 h4 (IntKind.wrap .i8 (h5 + 1)) h6 (h7 ++ [h5, h1]))
      none)
    (K1 h2 h3 h6 h7)

def impl_Lawn_all_l0 {R : Type} (k : Nat) (K1 : Int → Int → (List Int) → (List Int) → Option R) (h1 : Int) (h2 : Int) (h3 : Int) (h4 : Int) (h5 : Int) (h6 : List Int) (h7 : List Int) : Option R :=
  loopF (fun (rec : Int × Int × Int × Int × Int × (List Int) × (List Int) → Option R) (p : Int × Int × Int × Int × Int × (List Int) × (List Int)) => impl_Lawn_all_s0 k K1 (fun h1 h2 h3 h4 h5 h6 h7 => rec (h1, h2, h3, h4, h5, h6, h7)) p.1 p.2.1 p.2.2.1 p.2.2.2.1 p.2.2.2.2.1 p.2.2.2.2.2.1 p.2.2.2.2.2.2) k (h1, h2, h3, h4, h5, h6, h7)

def impl_Lawn_all_s1 {R : Type} (k : Nat) (K1 : (List Int) → Option R) (rec : Int → Int → (List Int) → (List Int) → Option R) (h1 : Int) (h2 : Int) (h3 : List Int) (h4 : List Int) : Option R :=
  cond (decide (h2 < h1))
    (impl_Lawn_all_l0 k
      (fun y1 y2 y3 y4 =>
        rec y1 (IntKind.wrap .i8 (y2 + 1)) y3 y4)
      h2 h1 h2 (rd h3 0) 0 h3 h4)
    (K1 h4)

def impl_Lawn_all_l1 {R : Type} (k : Nat) (K1 : (List Int) → Option R) (h1 : Int) (h2 : Int) (h3 : List Int) (h4 : List Int) : Option R :=
  loopF (fun (rec : Int × Int × (List Int) × (List Int) → Option R) (p : Int × Int × (List Int) × (List Int)) => impl_Lawn_all_s1 k K1 (fun h1 h2 h3 h4 => rec (h1, h2, h3, h4)) p.1 p.2.1 p.2.2.1 p.2.2.2) k (h1, h2, h3, h4)

def impl_Lawn_all (k : Nat) (a1 : List Int) : Option ((List Int)) :=
  impl_Lawn_all_l1 k
    (fun y1 =>
      some y1)
    (rd a1 1) 0 a1 []

def impl_Lawn_those_1 (k : Nat) (a1 : List Int) (a2 : List Int → Option Bool) : Option (Bool) :=
  Option.bind (a2 [(rd a1 0), (rd a1 1)]) fun x1 =>
    some (!x1)

def slices_IndexFunc_impl_Cell_s0 {R : Type} (k : Nat) (K1 : Int → Option R) (K2 : Option R) (rec : (List Int) → (List Int → Option Bool) → Int → Int → Option R) (h1 : List Int) (h2 : List Int → Option Bool) (h3 : Int) (h4 : Int) : Option R :=
  cond (decide (h4 < h3))
    (cond ((decide (0 ≤ h4)) && (decide (h4 < ((cnt 2 h1) : Int))))
      (Option.bind (h2 [(rd h1 (h4.toNat * 2)), (rd h1 ((h4.toNat * 2) + 1))]) fun x1 =>
        cond x1
          (K1 h4)
          (rec h1 h2 h3 (IntKind.wrap .i64 (h4 + 1))))
      none)
    (K2)

def slices_IndexFunc_impl_Cell_l0 {R : Type} (k : Nat) (K1 : Int → Option R) (K2 : Option R) (h1 : List Int) (h2 : List Int → Option Bool) (h3 : Int) (h4 : Int) : Option R :=
  loopF (fun (rec : (List Int) × (List Int → Option Bool) × Int × Int → Option R) (p : (List Int) × (List Int → Option Bool) × Int × Int) => slices_IndexFunc_impl_Cell_s0 k K1 K2 (fun h1 h2 h3 h4 => rec (h1, h2, h3, h4)) p.1 p.2.1 p.2.2.1 p.2.2.2) k (h1, h2, h3, h4)

def slices_IndexFunc_impl_Cell (k : Nat) (a1 : List Int) (a2 : List Int → Option Bool) : Option (Int) :=
  slices_IndexFunc_impl_Cell_l0 k
    (fun y1 =>
      some y1)
    (some (-1))
    a1 a2 ((cnt 2 a1) : Int) 0

def slices_DeleteFunc_impl_Cell_s0 {R : Type} (k : Nat) (K1 : Int → (List Int) → Option R) (rec : (List Int → Option Bool) → Int → Int → (List Int) → Option R) (h1 : List Int → Option Bool) (h2 : Int) (h3 : Int) (h4 : List Int) : Option R :=
  cond (decide (h3 < ((cnt 2 h4) : Int)))
    (cond ((decide (0 ≤ h3)) && (decide (h3 < ((cnt 2 h4) : Int))))
      (Option.bind (h1 [(rd h4 (h3.toNat * 2)), (rd h4 ((h3.toNat * 2) + 1))]) fun x1 =>
        cond (!x1)
          (cond ((decide (0 ≤ h2)) && (decide (h2 < ((cnt 2 h4) : Int))))
            (rec h1 (IntKind.wrap .i64 (h2 + 1)) (IntKind.wrap .i64 (h3 + 1)) (setWin h4 (h2.toNat * 2) 2 [(rd h4 (h3.toNat * 2)), (rd h4 ((h3.toNat * 2) + 1))]))
            none)
          (rec h1 h2 (IntKind.wrap .i64 (h3 + 1)) h4))
      none)
    (K1 h2 h4)

def slices_DeleteFunc_impl_Cell_l0 {R : Type} (k : Nat) (K1 : Int → (List Int) → Option R) (h1 : List Int → Option Bool) (h2 : Int) (h3 : Int) (h4 : List Int) : Option R :=
  loopF (fun (rec : (List Int → Option Bool) × Int × Int × (List Int) → Option R) (p : (List Int → Option Bool) × Int × Int × (List Int)) => slices_DeleteFunc_impl_Cell_s0 k K1 (fun h1 h2 h3 h4 => rec (h1, h2, h3, h4)) p.1 p.2.1 p.2.2.1 p.2.2.2) k (h1, h2, h3, h4)

def slices_DeleteFunc_impl_Cell (k : Nat) (a1 : List Int) (a2 : List Int → Option Bool) : Option ((List Int)) :=
  Option.bind (slices_IndexFunc_impl_Cell k a1 a2) fun x1 =>
    cond (x1 == (-1))
      (some a1)
      (slices_DeleteFunc_impl_Cell_l0 k
        (fun y2 y3 =>
          cond ((decide (0 ≤ y2)) && (decide (y2 ≤ ((cnt 2 y3) : Int))))
            (cond ((decide (0 ≤ y2)) && (decide (y2 ≤ (((cnt 2 (setWin y3 (y2.toNat * 2) (((cnt 2 y3) - y2.toNat) * 2) (List.replicate (((cnt 2 y3) - y2.toNat) * 2) 0))) : Nat) : Int))))
              (some (win (setWin y3 (y2.toNat * 2) (((cnt 2 y3) - y2.toNat) * 2) (List.replicate (((cnt 2 y3) - y2.toNat) * 2) 0)) 0 (y2.toNat * 2)))
              none)
            none)
        a2 x1 (IntKind.wrap .i64 (x1 + 1)) a1)

def impl_Lawn_those (k : Nat) (a1 : List Int) (a2 : List Int → Option Bool) : Option ((List Int)) :=
  Option.bind (impl_Lawn_all k a1) fun x1 =>
    Option.bind (slices_DeleteFunc_impl_Cell k x1 (fun z2 => (impl_Lawn_those_1 k [(rd z2 0), (rd z2 1)] a2).bind fun b => some b)) fun x3 =>
      some x3

def math_bits_Mul64 (k : Nat) (a1 : Int) (a2 : Int) : Option (Int × Int) :=
  some ((IntKind.wrap .u64 ((IntKind.wrap .u64 ((IntKind.wrap .u64 ((Int.fdiv a1 (2 ^ (min (32 : Int).toNat (IntKind.bits .u64)))) * (Int.fdiv a2 (2 ^ (min (32 : Int).toNat (IntKind.bits .u64)))))) + (Int.fdiv (IntKind.wrap .u64 ((IntKind.wrap .u64 ((Int.fdiv a1 (2 ^ (min (32 : Int).toNat (IntKind.bits .u64)))) * (IntKind.wrap .u64 ((BitVec.ofInt (IntKind.bits .u64) a2 &&& BitVec.ofInt (IntKind.bits .u64) 4294967295).toNat : Int)))) + (Int.fdiv (IntKind.wrap .u64 ((IntKind.wrap .u64 ((BitVec.ofInt (IntKind.bits .u64) a1 &&& BitVec.ofInt (IntKind.bits .u64) 4294967295).toNat : Int)) * (IntKind.wrap .u64 ((BitVec.ofInt (IntKind.bits .u64) a2 &&& BitVec.ofInt (IntKind.bits .u64) 4294967295).toNat : Int)))) (2 ^ (min (32 : Int).toNat (IntKind.bits .u64)))))) (2 ^ (min (32 : Int).toNat (IntKind.bits .u64)))))) + (Int.fdiv (IntKind.wrap .u64 ((IntKind.wrap .u64 ((BitVec.ofInt (IntKind.bits .u64) (IntKind.wrap .u64 ((IntKind.wrap .u64 ((Int.fdiv a1 (2 ^ (min (32 : Int).toNat (IntKind.bits .u64)))) * (IntKind.wrap .u64 ((BitVec.ofInt (IntKind.bits .u64) a2 &&& BitVec.ofInt (IntKind.bits .u64) 4294967295).toNat : Int)))) + (Int.fdiv (IntKind.wrap .u64 ((IntKind.wrap .u64 ((BitVec.ofInt (IntKind.bits .u64) a1 &&& BitVec.ofInt (IntKind.bits .u64) 4294967295).toNat : Int)) * (IntKind.wrap .u64 ((BitVec.ofInt (IntKind.bits .u64) a2 &&& BitVec.ofInt (IntKind.bits .u64) 4294967295).toNat : Int)))) (2 ^ (min (32 : Int).toNat (IntKind.bits .u64)))))) &&& BitVec.ofInt (IntKind.bits .u64) 4294967295).toNat : Int)) + (IntKind.wrap .u64 ((IntKind.wrap .u64 ((BitVec.ofInt (IntKind.bits .u64) a1 &&& BitVec.ofInt (IntKind.bits .u64) 4294967295).toNat : Int)) * (Int.fdiv a2 (2 ^ (min (32 : Int).toNat (IntKind.bits .u64)))))))) (2 ^ (min (32 : Int).toNat (IntKind.bits .u64)))))), (IntKind.wrap .u64 (a1 * a2)))

def math_bits_Mul (k : Nat) (a1 : Int) (a2 : Int) : Option (Int × Int) :=
  Option.bind (math_bits_Mul64 k a1 a2) fun x1 =>
    some (x1.1, x1.2)

def slices_Repeat_int64_s0 {R : Type} (k : Nat) (K1 : (List Int) → Option R) (rec : Int → (List Int) → Option R) (h1 : Int) (h2 : List Int) : Option R :=
  cond (decide (h1 < ((cnt 1 h2) : Int)))
    (cond ((decide (0 ≤ h1)) && (decide (h1 ≤ ((cnt 1 h2) : Int))))
      (cond ((decide (0 ≤ h1)) && (decide (h1 ≤ ((cnt 1 h2) : Int))))
        (rec (IntKind.wrap .i64 (h1 + ((min (cnt 1 (win h2 0 (h1.toNat * 1))) ((cnt 1 h2) - h1.toNat) : Nat) : Int))) (copyI 1 h2 (h1.toNat * 1) ((cnt 1 h2) - h1.toNat) (win h2 0 (h1.toNat * 1))))
        none)
      none)
    (K1 h2)

def slices_Repeat_int64_l0 {R : Type} (k : Nat) (K1 : (List Int) → Option R) (h1 : Int) (h2 : List Int) : Option R :=
  loopF (fun (rec : Int × (List Int) → Option R) (p : Int × (List Int)) => slices_Repeat_int64_s0 k K1 (fun h1 h2 => rec (h1, h2)) p.1 p.2) k (h1, h2)

def slices_Repeat_int64 (k : Nat) (a1 : List Int) (a2 : Int) : Option ((List Int)) :=
  cond (decide (a2 < 0))
    none
    (Option.bind (math_bits_Mul k (IntKind.wrap .u64 ((cnt 1 a1) : Int)) (IntKind.wrap .u64 a2)) fun x1 =>
      cond (decide (x1.1 > 0))
        none
        (cond (decide (x1.2 > 9223372036854775807))
          none
          (cond ((decide (0 ≤ (IntKind.wrap .i64 x1.2))) && ((decide ((IntKind.wrap .i64 x1.2) ≤ 4294967296)) && ((IntKind.wrap .i64 x1.2) == (IntKind.wrap .i64 x1.2))))
            (slices_Repeat_int64_l0 k
              (fun y2 =>
                some y2)
              ((min (cnt 1 a1) (cnt 1 (List.replicate ((IntKind.wrap .i64 x1.2).toNat * 1) 0)) : Nat) : Int) (copyI 1 (List.replicate ((IntKind.wrap .i64 x1.2).toNat * 1) 0) 0 (cnt 1 (List.replicate ((IntKind.wrap .i64 x1.2).toNat * 1) 0)) a1))
            none)))

def impl_Lawn_index (k : Nat) (a1 : List Int) (a2 : List Int) : Option (Int) :=
  some (IntKind.wrap .i64 ((IntKind.wrap .i64 ((IntKind.wrap .i64 (rd a2 1)) * (IntKind.wrap .i64 (rd a1 0)))) + (IntKind.wrap .i64 (rd a2 0))))

def impl_beside (k : Nat) (a1 : List Int) : Option ((List Int)) :=
  some [(rd a1 0), (IntKind.wrap .i8 ((rd a1 1) - 1)), (IntKind.wrap .i8 ((rd a1 0) - 1)), (rd a1 1), (IntKind.wrap .i8 ((rd a1 0) + 1)), (rd a1 1), (rd a1 0), (IntKind.wrap .i8 ((rd a1 1) + 1))]

def impl_Lawn_steps_s0 {R : Type} (k : Nat) (K1 : (List Int → Option Bool) → (List Int) → (List Int) → (List Int) → Option R) (rec : (List Int → Option Bool) → Int → Int → (List Int) → (List Int) → (List Int) → (List Int) → Option R) (h1 : List Int → Option Bool) (h2 : Int) (h3 : Int) (h4 : List Int) (h5 : List Int) (h6 : List Int) (h7 : List Int) : Option R :=
  cond (decide (h3 < h2))
    (cond ((decide (0 ≤ h3)) && (decide (h3 < ((cnt 2 h7) : Int))))
      (Option.bind (impl_Lawn_has k h4 [(rd h7 (h3.toNat * 2)), (rd h7 ((h3.toNat * 2) + 1))]) fun x1 =>
        cond x1
          (Option.bind (h1 [(rd h7 (h3.toNat * 2)), (rd h7 ((h3.toNat * 2) + 1))]) fun x2 =>
            cond x2
              (Option.bind (impl_Lawn_index k h4 [(rd h7 (h3.toNat * 2)), (rd h7 ((h3.toNat * 2) + 1))]) fun x3 =>
                cond ((decide (0 ≤ x3)) && (decide (x3 < ((cnt 1 h5) : Int))))
                  (cond (decide ((rd h5 (x3.toNat * 1)) < 0))
                    (Option.bind (impl_Lawn_index k h4 [(rd h7 (h3.toNat * 2)), (rd h7 ((h3.toNat * 2) + 1))]) fun x4 =>
                      cond (decide (0 < ((cnt 2 h6) : Int)))
                        (Option.bind (impl_Lawn_index k h4 [(rd h6 0), (rd h6 1)]) fun x5 =>
                          cond ((decide (0 ≤ x5)) && (decide (x5 < ((cnt 1 h5) : Int))))
                            (cond ((decide (0 ≤ x4)) && (decide (x4 < ((cnt 1 h5) : Int))))
                              (cond (decide (h6.length + 2 ≤ bigLen))
                                (rec h1 h2 (IntKind.wrap .i64 (h3 + 1)) h4 (List.set h5 (x4.toNat * 1) (IntKind.wrap .i64 ((rd h5 (x5.toNat * 1)) + 1))) (h6 ++ [(rd h7 (h3.toNat * 2)), (rd h7 ((h3.toNat * 2) + 1))]) h7)
                                none)
                              none)
                            none)
                        none)
                    (rec h1 h2 (IntKind.wrap .i64 (h3 + 1)) h4 h5 h6 h7))
                  none)
              (rec h1 h2 (IntKind.wrap .i64 (h3 + 1)) h4 h5 h6 h7))
          (rec h1 h2 (IntKind.wrap .i64 (h3 + 1)) h4 h5 h6 h7))
      none)
    (K1 h1 h4 h5 h6)

def impl_Lawn_steps_l0 {R : Type} (k : Nat) (K1 : (List Int → Option Bool) → (List Int) → (List Int) → (List Int) → Option R) (h1 : List Int → Option Bool) (h2 : Int) (h3 : Int) (h4 : List Int) (h5 : List Int) (h6 : List Int) (h7 : List Int) : Option R :=
  loopF (fun (rec : (List Int → Option Bool) × Int × Int × (List Int) × (List Int) × (List Int) × (List Int) → Option R) (p : (List Int → Option Bool) × Int × Int × (List Int) × (List Int) × (List Int) × (List Int)) => impl_Lawn_steps_s0 k K1 (fun h1 h2 h3 h4 h5 h6 h7 => rec (h1, h2, h3, h4, h5, h6, h7)) p.1 p.2.1 p.2.2.1 p.2.2.2.1 p.2.2.2.2.1 p.2.2.2.2.2.1 p.2.2.2.2.2.2) k (h1, h2, h3, h4, h5, h6, h7)

def impl_Lawn_steps_s1 {R : Type} (k : Nat) (K1 : (List Int) → Option R) (rec : (List Int → Option Bool) → (List Int) → (List Int) → (List Int) → Option R) (h1 : List Int → Option Bool) (h2 : List Int) (h3 : List Int) (h4 : List Int) : Option R :=
  cond (decide (((cnt 2 h4) : Int) > 0))
    (cond (decide (0 < ((cnt 2 h4) : Int)))
      (Option.bind (impl_beside k [(rd h4 0), (rd h4 1)]) fun x1 =>
        impl_Lawn_steps_l0 k
          (fun y2 y3 y4 y5 =>
            cond (decide (1 ≤ ((cnt 2 y5) : Int)))
              (rec y2 y3 y4 (win y5 2 (((cnt 2 y5) - 1) * 2)))
              none)
          h1 ((cnt 2 x1) : Int) 0 h2 h3 h4 x1)
      none)
    (K1 h3)

def impl_Lawn_steps_l1 {R : Type} (k : Nat) (K1 : (List Int) → Option R) (h1 : List Int → Option Bool) (h2 : List Int) (h3 : List Int) (h4 : List Int) : Option R :=
  loopF (fun (rec : (List Int → Option Bool) × (List Int) × (List Int) × (List Int) → Option R) (p : (List Int → Option Bool) × (List Int) × (List Int) × (List Int)) => impl_Lawn_steps_s1 k K1 (fun h1 h2 h3 h4 => rec (h1, h2, h3, h4)) p.1 p.2.1 p.2.2.1 p.2.2.2) k (h1, h2, h3, h4)

def impl_Lawn_steps (k : Nat) (a1 : List Int) (a2 : List Int) (a3 : List Int → Option Bool) : Option ((List Int)) :=
  Option.bind (slices_Repeat_int64 k [(-1)] (IntKind.wrap .i64 ((IntKind.wrap .i64 (rd a1 0)) * (IntKind.wrap .i64 (rd a1 1))))) fun x1 =>
    Option.bind (impl_Lawn_index k a1 [(rd a2 0), (rd a2 1)]) fun x2 =>
      cond ((decide (0 ≤ x2)) && (decide (x2 < ((cnt 1 x1) : Int))))
        (impl_Lawn_steps_l1 k
          (fun y3 =>
            some y3)
          a3 a1 (List.set x1 (x2.toNat * 1) 0) [(rd a2 0), (rd a2 1)])
        none

def impl_Lawn_grass (k : Nat) (a1 : List Int) (a2 : List Int) : Option (Bool) :=
  Option.bind (impl_Lawn_is k a1 [(rd a2 0), (rd a2 1)] 0) fun x1 =>
    some x1

def impl_Lawn_battery_s0 {R : Type} (k : Nat) (K1 : Int → Bool → Option R) (rec : Int → Bool → Int → Int → (List Int) → (List Int) → (List Int) → Option R) (h1 : Int) (h2 : Bool) (h3 : Int) (h4 : Int) (h5 : List Int) (h6 : List Int) (h7 : List Int) : Option R :=
  cond (decide (h4 < h3))
    (cond ((decide (0 ≤ h4)) && (decide (h4 < ((cnt 2 h7) : Int))))
      (Option.bind (impl_Lawn_index k h5 [(rd h7 (h4.toNat * 2)), (rd h7 ((h4.toNat * 2) + 1))]) fun x1 =>
        cond ((decide (0 ≤ x1)) && (decide (x1 < ((cnt 1 h6) : Int))))
          (cond h2
            (rec (maxI h1 (IntKind.wrap .i64 (2 * (rd h6 (x1.toNat * 1))))) (decide ((rd h6 (x1.toNat * 1)) ≥ 0)) h3 (IntKind.wrap .i64 (h4 + 1)) h5 h6 h7)
            (rec (maxI h1 (IntKind.wrap .i64 (2 * (rd h6 (x1.toNat * 1))))) false h3 (IntKind.wrap .i64 (h4 + 1)) h5 h6 h7))
          none)
      none)
    (K1 h1 h2)

def impl_Lawn_battery_l0 {R : Type} (k : Nat) (K1 : Int → Bool → Option R) (h1 : Int) (h2 : Bool) (h3 : Int) (h4 : Int) (h5 : List Int) (h6 : List Int) (h7 : List Int) : Option R :=
  loopF (fun (rec : Int × Bool × Int × Int × (List Int) × (List Int) × (List Int) → Option R) (p : Int × Bool × Int × Int × (List Int) × (List Int) × (List Int)) => impl_Lawn_battery_s0 k K1 (fun h1 h2 h3 h4 h5 h6 h7 => rec (h1, h2, h3, h4, h5, h6, h7)) p.1 p.2.1 p.2.2.1 p.2.2.2.1 p.2.2.2.2.1 p.2.2.2.2.2.1 p.2.2.2.2.2.2) k (h1, h2, h3, h4, h5, h6, h7)

def impl_Lawn_battery (k : Nat) (a1 : List Int) (a2 : List Int) : Option (Int × Bool) :=
  Option.bind (impl_Lawn_steps k a1 [(rd a2 0), (rd a2 1)] (fun z1 => (impl_Lawn_open k a1 [(rd z1 0), (rd z1 1)]).bind fun b => some b)) fun x2 =>
    Option.bind (impl_Lawn_those k a1 (fun z3 => (impl_Lawn_grass k a1 [(rd z3 0), (rd z3 1)]).bind fun b => some b)) fun x4 =>
      impl_Lawn_battery_l0 k
        (fun y5 y6 =>
          some (y5, y6))
        0 true ((cnt 2 x4) : Int) 0 a1 x2 x4

def impl_BestHome_s0 {R : Type} (k : Nat) (K1 : Int → (List Int) → (List Int) → Option R) (rec : Int → Int → Int → (List Int) → (List Int) → (List Int) → (List Int) → Option R) (h1 : Int) (h2 : Int) (h3 : Int) (h4 : List Int) (h5 : List Int) (h6 : List Int) (h7 : List Int) : Option R :=
  cond (decide (h3 < h2))
    (cond ((decide (0 ≤ h3)) && (decide (h3 < ((cnt 2 h7) : Int))))
      (Option.bind (impl_Lawn_battery k h4 [(rd h7 (h3.toNat * 2)), (rd h7 ((h3.toNat * 2) + 1))]) fun x1 =>
        cond x1.2
          (cond (decide (h1 < 0))
            (rec x1.1 h2 (IntKind.wrap .i64 (h3 + 1)) h4 h5 [(rd h7 (h3.toNat * 2)), (rd h7 ((h3.toNat * 2) + 1))] h7)
            (cond (decide (x1.1 < h1))
              (rec x1.1 h2 (IntKind.wrap .i64 (h3 + 1)) h4 h5 [(rd h7 (h3.toNat * 2)), (rd h7 ((h3.toNat * 2) + 1))] h7)
              (rec h1 h2 (IntKind.wrap .i64 (h3 + 1)) h4 h5 h6 h7)))
          (rec h1 h2 (IntKind.wrap .i64 (h3 + 1)) h4 h5 h6 h7))
      none)
    (K1 h1 h5 h6)

def impl_BestHome_l0 {R : Type} (k : Nat) (K1 : Int → (List Int) → (List Int) → Option R) (h1 : Int) (h2 : Int) (h3 : Int) (h4 : List Int) (h5 : List Int) (h6 : List Int) (h7 : List Int) : Option R :=
  loopF (fun (rec : Int × Int × Int × (List Int) × (List Int) × (List Int) × (List Int) → Option R) (p : Int × Int × Int × (List Int) × (List Int) × (List Int) × (List Int)) => impl_BestHome_s0 k K1 (fun h1 h2 h3 h4 h5 h6 h7 => rec (h1, h2, h3, h4, h5, h6, h7)) p.1 p.2.1 p.2.2.1 p.2.2.2.1 p.2.2.2.2.1 p.2.2.2.2.2.1 p.2.2.2.2.2.2) k (h1, h2, h3, h4, h5, h6, h7)

def impl_BestHome (k : Nat) (a1 : List Int) : Option ((List Int) × Int × Int) :=
  Option.bind (impl_ValidLawn k a1) fun x1 =>
    cond (!x1)
      (some ([0, 0], 0, 1))
      (Option.bind (impl_Lawn_those k a1 (fun z2 => (impl_Lawn_open k a1 [(rd z2 0), (rd z2 1)]).bind fun b => some b)) fun x3 =>
        impl_BestHome_l0 k
          (fun y4 y5 y6 =>
            cond (decide (y4 < 0))
              (some ([0, 0], 0, 6))
              (some ([(rd y6 0), (rd y6 1)], y4, 0)))
          (-1) ((cnt 2 x3) : Int) 0 a1 [0, 0] [0, 0] x3)

def laws_eqCell (k : Nat) (a1 : List Int) (a2 : List Int) : Option (Bool) :=
  cond ((rd a1 0) != (rd a2 0))
    (some false)
    (cond ((rd a1 1) != (rd a2 1))
      (some false)
      (some true))

def laws_FnExactBestHome (k : Nat) (a1 : List Int) : Option (Bool) :=
  Option.bind (laws_toLawn k a1) fun x1 =>
    Option.bind (spec_BestHome k x1) fun x2 =>
      Option.bind (laws_toLawn k a1) fun x3 =>
        Option.bind (impl_BestHome k x3) fun x4 =>
          Option.bind (laws_eqCell k [(rd x4.1 0), (rd x4.1 1)] [(rd x2.1 0), (rd x2.1 1)]) fun x5 =>
            cond (!x5)
              (some false)
              (cond (x4.2.1 != x2.2.1)
                (some false)
                (cond (x4.2.2 != x2.2.2)
                  (some false)
                  (some true)))

def impl_cellsCode_1 (k : Nat) (a1 : List Int) (a2 : List Int) : Option (Bool) :=
  Option.bind (impl_Lawn_has k a2 [(rd a1 0), (rd a1 1)]) fun x1 =>
    some (!x1)

def slices_ContainsFunc_impl_Cell (k : Nat) (a1 : List Int) (a2 : List Int → Option Bool) : Option (Bool) :=
  Option.bind (slices_IndexFunc_impl_Cell k a1 a2) fun x1 =>
    some (decide (x1 ≥ 0))

def impl_cellsCode (k : Nat) (a1 : List Int) (a2 : List Int) : Option (Int) :=
  Option.bind (impl_ValidLawn k a1) fun x1 =>
    cond (!x1)
      (some 1)
      (Option.bind (slices_ContainsFunc_impl_Cell k a2 (fun z2 => (impl_cellsCode_1 k [(rd z2 0), (rd z2 1)] a1).bind fun b => some b)) fun x3 =>
        cond x3
          (some 2)
          (some 0))

def impl_openCode_1 (k : Nat) (a1 : List Int) (a2 : List Int) : Option (Bool) :=
  Option.bind (impl_Lawn_open k a2 [(rd a1 0), (rd a1 1)]) fun x1 =>
    some (!x1)

def impl_openCode (k : Nat) (a1 : List Int) (a2 : List Int) : Option (Int) :=
  Option.bind (impl_cellsCode k a1 a2) fun x1 =>
    cond (x1 == 0)
      (Option.bind (slices_ContainsFunc_impl_Cell k a2 (fun z2 => (impl_openCode_1 k [(rd z2 0), (rd z2 1)] a1).bind fun b => some b)) fun x3 =>
        cond x3
          (some 4)
          (some x1))
      (some x1)


end Go.Proofs.Ytboddfdojkgemaa.Tt
