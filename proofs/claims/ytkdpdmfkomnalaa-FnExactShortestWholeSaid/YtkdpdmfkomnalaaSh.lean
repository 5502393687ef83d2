/- The functions in plain Lean. -/
import Derived.Test.YtkdpdmfkomnalaaE6
import Derived.Lib.Bytealg
set_option linter.unusedVariables false
set_option linter.unusedSimpArgs false
set_option linter.unusedVariables false
namespace Go.Proofs.Ytkdpdmfkomnalaa.Tt
open Go.Ev Go

def laws_toByteA10_s0 {R : Type} (k : Nat) (K1 : (List Int) → (List Int) → Option R) (rec : Int → (List Int) → (List Int) → (List Int) → Option R) (h1 : Int) (h2 : List Int) (h3 : List Int) (h4 : List Int) : Option R :=
  cond (decide (h1 < 10))
    (cond ((decide (0 ≤ h1)) && (decide (h1 < 10)))
      (cond ((decide (0 ≤ h1)) && (decide (h1 < 10)))
        (rec (IntKind.wrap .i64 (h1 + 1)) h2 h3 (List.set h4 (0 + h1.toNat * 1) (rd h2 (0 + h1.toNat * 1))))
        none)
      none)
    (K1 h3 h4)

def laws_toByteA10_l0 {R : Type} (k : Nat) (K1 : (List Int) → (List Int) → Option R) (h1 : Int) (h2 : List Int) (h3 : List Int) (h4 : List Int) : Option R :=
  loopF (fun (rec : Int × (List Int) × (List Int) × (List Int) → Option R) (p : Int × (List Int) × (List Int) × (List Int)) => laws_toByteA10_s0 k K1 (fun h1 h2 h3 h4 => rec (h1, h2, h3, h4)) p.1 p.2.1 p.2.2.1 p.2.2.2) k (h1, h2, h3, h4)

def laws_toByteA10 (k : Nat) (a1 : List Int) : Option ((List Int)) :=
  laws_toByteA10_l0 k
    (fun y1 y2 =>
      some y2)
    0 a1 [0, 0, 0, 0, 0, 0, 0, 0, 0, 0] [0, 0, 0, 0, 0, 0, 0, 0, 0, 0]

def laws_toByteA10A10_s0 {R : Type} (k : Nat) (K1 : (List Int) → (List Int) → Option R) (rec : Int → (List Int) → (List Int) → (List Int) → Option R) (h1 : Int) (h2 : List Int) (h3 : List Int) (h4 : List Int) : Option R :=
  cond (decide (h1 < 10))
    (cond ((decide (0 ≤ h1)) && (decide (h1 < 10)))
      (Option.bind (laws_toByteA10 k (win h2 (0 + h1.toNat * 10) 10)) fun x1 =>
        cond ((decide (0 ≤ h1)) && (decide (h1 < 10)))
          (rec (IntKind.wrap .i64 (h1 + 1)) h2 h3 (setWin h4 (0 + h1.toNat * 10) 10 x1))
          none)
      none)
    (K1 h3 h4)

def laws_toByteA10A10_l0 {R : Type} (k : Nat) (K1 : (List Int) → (List Int) → Option R) (h1 : Int) (h2 : List Int) (h3 : List Int) (h4 : List Int) : Option R :=
  loopF (fun (rec : Int × (List Int) × (List Int) × (List Int) → Option R) (p : Int × (List Int) × (List Int) × (List Int)) => laws_toByteA10A10_s0 k K1 (fun h1 h2 h3 h4 => rec (h1, h2, h3, h4)) p.1 p.2.1 p.2.2.1 p.2.2.2) k (h1, h2, h3, h4)

def laws_toByteA10A10 (k : Nat) (a1 : List Int) : Option ((List Int)) :=
  laws_toByteA10A10_l0 k
    (fun y1 y2 =>
      some y2)
    0 a1 (List.replicate 100 0) (List.replicate 100 0)

def laws_toLawn (k : Nat) (a1 : List Int) : Option ((List Int)) :=
  Option.bind (laws_toByteA10A10 k (win a1 2 100)) fun x1 =>
    some (setWin (List.set (List.set (List.replicate 102 0) 0 (rd a1 0)) 1 (rd a1 1)) 2 100 x1)

def laws_toCell (k : Nat) (a1 : List Int) : Option ((List Int)) :=
  some [(rd a1 0), (rd a1 1)]

def spec_l00In (k : Nat) (a1 : Int) (a2 : Int) (a3 : Int) : Option (Bool) :=
  cond (decide (a1 ≥ a2))
    (some (decide (a1 ≤ a3)))
    (some false)

def spec_l01Is (k : Nat) (a1 : List Int) (a2 : List Int) : Option (Bool) :=
  Option.bind (spec_l00In k (IntKind.wrap .i64 (rd a2 0)) 0 (IntKind.wrap .i64 ((IntKind.wrap .i64 (rd a1 0)) - 1))) fun x1 =>
    cond x1
      (Option.bind (spec_l00In k (IntKind.wrap .i64 (rd a2 1)) 0 (IntKind.wrap .i64 ((IntKind.wrap .i64 (rd a1 1)) - 1))) fun x2 =>
        some x2)
      (some false)

def spec_l01Side (k : Nat) (a1 : Int) : Option (Bool) :=
  Option.bind (spec_l00In k a1 1 10) fun x1 =>
    some x1

def spec_l01Kind (k : Nat) (a1 : Int) : Option (Bool) :=
  Option.bind (spec_l00In k a1 0 3) fun x1 =>
    some x1

def spec_l01Ok_s0 {R : Type} (k : Nat) (K1 : Bool → Option R) (K2 : (List Int) → Int → Option R) (rec : (List Int) → Int → Int → Option R) (h1 : List Int) (h2 : Int) (h3 : Int) : Option R :=
  cond (decide (h3 < 10))
    (cond ((decide (0 ≤ h2)) && (decide (h2 < 10)))
      (cond ((decide (0 ≤ h3)) && (decide (h3 < 10)))
        (Option.bind (spec_l01Kind k (IntKind.wrap .i64 (rd h1 ((2 + h2.toNat * 10) + h3.toNat * 1)))) fun x1 =>
          cond (!x1)
            (K1 false)
            (cond ((IntKind.wrap .i64 (rd h1 ((2 + h2.toNat * 10) + h3.toNat * 1))) != 0)
              (Option.bind (spec_l01Is k h1 [h3, h2]) fun x2 =>
                cond (!x2)
                  (K1 false)
                  (rec h1 h2 (IntKind.wrap .i8 (h3 + 1))))
              (rec h1 h2 (IntKind.wrap .i8 (h3 + 1)))))
        none)
      none)
    (K2 h1 h2)

def spec_l01Ok_l0 {R : Type} (k : Nat) (K1 : Bool → Option R) (K2 : (List Int) → Int → Option R) (h1 : List Int) (h2 : Int) (h3 : Int) : Option R :=
  loopF (fun (rec : (List Int) × Int × Int → Option R) (p : (List Int) × Int × Int) => spec_l01Ok_s0 k K1 K2 (fun h1 h2 h3 => rec (h1, h2, h3)) p.1 p.2.1 p.2.2) k (h1, h2, h3)

def spec_l01Ok_s1 {R : Type} (k : Nat) (K1 : Bool → Option R) (K2 : Option R) (rec : (List Int) → Int → Option R) (h1 : List Int) (h2 : Int) : Option R :=
  cond (decide (h2 < 10))
    (spec_l01Ok_l0 k
      (fun y1 =>
        K1 y1)
      (fun y2 y3 =>
        rec y2 (IntKind.wrap .i8 (y3 + 1)))
      h1 h2 0)
    (K2)

def spec_l01Ok_l1 {R : Type} (k : Nat) (K1 : Bool → Option R) (K2 : Option R) (h1 : List Int) (h2 : Int) : Option R :=
  loopF (fun (rec : (List Int) × Int → Option R) (p : (List Int) × Int) => spec_l01Ok_s1 k K1 K2 (fun h1 h2 => rec (h1, h2)) p.1 p.2) k (h1, h2)

def spec_l01Ok (k : Nat) (a1 : List Int) : Option (Bool) :=
  Option.bind (spec_l01Side k (IntKind.wrap .i64 (rd a1 0))) fun x1 =>
    cond (!x1)
      (some false)
      (Option.bind (spec_l01Side k (IntKind.wrap .i64 (rd a1 1))) fun x2 =>
        cond (!x2)
          (some false)
          (spec_l01Ok_l1 k
            (fun y3 =>
              some y3)
            (some true)
            a1 0))

def spec_l01Told (k : Nat) (a1 : List Int) (a2 : Bool) : Option (Int) :=
  Option.bind (spec_l01Ok k a1) fun x1 =>
    cond (!x1)
      (some 1)
      (cond (!a2)
        (some 2)
        (some 0))

def spec_l01At (k : Nat) (a1 : List Int) (a2 : List Int) : Option (Int) :=
  cond ((decide (0 ≤ (rd a2 1))) && (decide ((rd a2 1) < 10)))
    (cond ((decide (0 ≤ (rd a2 0))) && (decide ((rd a2 0) < 10)))
      (some (IntKind.wrap .i64 (rd a1 ((2 + (rd a2 1).toNat * 10) + (rd a2 0).toNat * 1))))
      none)
    none

def spec_l01Open (k : Nat) (a1 : List Int) (a2 : List Int) : Option (Bool) :=
  Option.bind (spec_l01At k a1 [(rd a2 0), (rd a2 1)]) fun x1 =>
    cond (x1 == 0)
      (some true)
      (Option.bind (spec_l01At k a1 [(rd a2 0), (rd a2 1)]) fun x2 =>
        some (x2 == 3))

def spec_l01All_s0 {R : Type} (k : Nat) (K1 : (List Int) → Int → (List Int) → Option R) (rec : (List Int) → Int → Int → (List Int) → Option R) (h1 : List Int) (h2 : Int) (h3 : Int) (h4 : List Int) : Option R :=
  cond (decide (h3 < (rd h1 0)))
    (cond (decide (h4.length + 2 ≤ bigLen))
      (rec h1 h2 (IntKind.wrap .i8 (h3 + 1)) (h4 ++ [h3, h2]))
      none)
    (K1 h1 h2 h4)

def spec_l01All_l0 {R : Type} (k : Nat) (K1 : (List Int) → Int → (List Int) → Option R) (h1 : List Int) (h2 : Int) (h3 : Int) (h4 : List Int) : Option R :=
  loopF (fun (rec : (List Int) × Int × Int × (List Int) → Option R) (p : (List Int) × Int × Int × (List Int)) => spec_l01All_s0 k K1 (fun h1 h2 h3 h4 => rec (h1, h2, h3, h4)) p.1 p.2.1 p.2.2.1 p.2.2.2) k (h1, h2, h3, h4)

def spec_l01All_s1 {R : Type} (k : Nat) (K1 : (List Int) → Option R) (rec : (List Int) → Int → (List Int) → Option R) (h1 : List Int) (h2 : Int) (h3 : List Int) : Option R :=
  cond (decide (h2 < (rd h1 1)))
    (spec_l01All_l0 k
      (fun y1 y2 y3 =>
        rec y1 (IntKind.wrap .i8 (y2 + 1)) y3)
      h1 h2 0 h3)
    (K1 h3)

def spec_l01All_l1 {R : Type} (k : Nat) (K1 : (List Int) → Option R) (h1 : List Int) (h2 : Int) (h3 : List Int) : Option R :=
  loopF (fun (rec : (List Int) × Int × (List Int) → Option R) (p : (List Int) × Int × (List Int)) => spec_l01All_s1 k K1 (fun h1 h2 h3 => rec (h1, h2, h3)) p.1 p.2.1 p.2.2) k (h1, h2, h3)

def spec_l01All (k : Nat) (a1 : List Int) : Option ((List Int)) :=
  spec_l01All_l1 k
    (fun y1 =>
      some y1)
    a1 0 []

def spec_l01Cells_s0 {R : Type} (k : Nat) (K1 : (List Int) → Option R) (rec : (List Int) → Int → Int → (List Int) → (List Int) → Option R) (h1 : List Int) (h2 : Int) (h3 : Int) (h4 : List Int) (h5 : List Int) : Option R :=
  cond (decide (h3 < ((cnt 2 h5) : Int)))
    (cond ((decide (0 ≤ h3)) && (decide (h3 < ((cnt 2 h5) : Int))))
      (Option.bind (spec_l01At k h1 [(rd h5 (h3.toNat * 2)), (rd h5 ((h3.toNat * 2) + 1))]) fun x1 =>
        cond (x1 == h2)
          (cond ((decide (0 ≤ h3)) && (decide (h3 < ((cnt 2 h5) : Int))))
            (cond (decide (h4.length + 2 ≤ bigLen))
              (rec h1 h2 (IntKind.wrap .i64 (h3 + 1)) (h4 ++ [(rd h5 (h3.toNat * 2)), (rd h5 ((h3.toNat * 2) + 1))]) h5)
              none)
            none)
          (rec h1 h2 (IntKind.wrap .i64 (h3 + 1)) h4 h5))
      none)
    (K1 h4)

def spec_l01Cells_l0 {R : Type} (k : Nat) (K1 : (List Int) → Option R) (h1 : List Int) (h2 : Int) (h3 : Int) (h4 : List Int) (h5 : List Int) : Option R :=
  loopF (fun (rec : (List Int) × Int × Int × (List Int) × (List Int) → Option R) (p : (List Int) × Int × Int × (List Int) × (List Int)) => spec_l01Cells_s0 k K1 (fun h1 h2 h3 h4 h5 => rec (h1, h2, h3, h4, h5)) p.1 p.2.1 p.2.2.1 p.2.2.2.1 p.2.2.2.2) k (h1, h2, h3, h4, h5)

def spec_l01Cells (k : Nat) (a1 : List Int) (a2 : Int) : Option ((List Int)) :=
  Option.bind (spec_l01All k a1) fun x1 =>
    spec_l01Cells_l0 k
      (fun y2 =>
        some y2)
      a1 a2 0 [] x1

def spec_l02Small (k : Nat) (a1 : List Int) (a2 : List Int) : Option (Int) :=
  Option.bind (spec_l01Is k a1 [(rd a2 0), (rd a2 1)]) fun x1 =>
    Option.bind (spec_l01Told k a1 x1) fun x2 =>
      cond (x2 != 0)
        (some x2)
        (Option.bind (spec_l01Open k a1 [(rd a2 0), (rd a2 1)]) fun x3 =>
          cond (!x3)
            (some 4)
            (Option.bind (spec_l01Cells k a1 0) fun x4 =>
              cond (decide (((cnt 2 x4) : Int) > 9))
                (some 3)
                (Option.bind (spec_l01Cells k a1 3) fun x5 =>
                  cond (decide ((IntKind.wrap .i64 (((cnt 2 x4) : Int) + ((cnt 2 x5) : Int))) > 16))
                    (some 3)
                    (some 0))))

def spec_l02Bit_s0 {R : Type} (k : Nat) (K1 : Int → Option R) (K2 : Option R) (rec : (List Int) → Int → (List Int) → Option R) (h1 : List Int) (h2 : Int) (h3 : List Int) : Option R :=
  cond (decide (h2 < ((cnt 2 h1) : Int)))
    (cond ((decide (0 ≤ h2)) && (decide (h2 < ((cnt 2 h1) : Int))))
      (cond (eqL [(rd h1 (h2.toNat * 2)), (rd h1 ((h2.toNat * 2) + 1))] [(rd h3 0), (rd h3 1)])
        (cond (decide (0 ≤ (IntKind.wrap .u64 h2)))
          (K1 (IntKind.wrap .i64 (1 * 2 ^ (min (IntKind.wrap .u64 h2).toNat (IntKind.bits .i64)))))
          none)
        (rec h1 (IntKind.wrap .i64 (h2 + 1)) h3))
      none)
    (K2)

def spec_l02Bit_l0 {R : Type} (k : Nat) (K1 : Int → Option R) (K2 : Option R) (h1 : List Int) (h2 : Int) (h3 : List Int) : Option R :=
  loopF (fun (rec : (List Int) × Int × (List Int) → Option R) (p : (List Int) × Int × (List Int)) => spec_l02Bit_s0 k K1 K2 (fun h1 h2 h3 => rec (h1, h2, h3)) p.1 p.2.1 p.2.2) k (h1, h2, h3)

def spec_l02Bit (k : Nat) (a1 : List Int) (a2 : List Int) : Option (Int) :=
  spec_l02Bit_l0 k
    (fun y1 =>
      some y1)
    (some 0)
    a1 0 a2

def spec_l02Next (k : Nat) (a1 : List Int) (a2 : Int) : Option ((List Int)) :=
  cond (a2 == 0)
    (some [(rd a1 0), (IntKind.wrap .i8 ((rd a1 1) - 1))])
    (cond (a2 == 1)
      (some [(IntKind.wrap .i8 ((rd a1 0) - 1)), (rd a1 1)])
      (cond (a2 == 2)
        (some [(IntKind.wrap .i8 ((rd a1 0) + 1)), (rd a1 1)])
        (some [(rd a1 0), (IntKind.wrap .i8 ((rd a1 1) + 1))])))

def spec_l02Free (k : Nat) (a1 : List Int) (a2 : List Int) : Option (Bool) :=
  Option.bind (spec_l01Is k a1 [(rd a2 0), (rd a2 1)]) fun x1 =>
    cond x1
      (Option.bind (spec_l01Open k a1 [(rd a2 0), (rd a2 1)]) fun x2 =>
        some x2)
      (some false)

def spec_ShortestWhole_s0 {R : Type} (k : Nat) (K1 : Int → Int → (List Int) → (List Int) → (List Int) → (List (List Int × ByteArray)) → Option R) (rec : Int → Int → Int → (List Int) → (List Int) → (List Int) → (List (List Int × ByteArray)) → Int → Int → Int → ByteArray → Option R) (h1 : Int) (h2 : Int) (h3 : Int) (h4 : List Int) (h5 : List Int) (h6 : List Int) (h7 : List (List Int × ByteArray)) (h8 : Int) (h9 : Int) (h10 : Int) (h11 : ByteArray) : Option R :=
  cond (decide (h3 < 4))
    (Option.bind (spec_l02Next k [h8, h9] h3) fun x1 =>
      Option.bind (spec_l02Free k h4 [(rd x1 0), (rd x1 1)]) fun x2 =>
        cond (!x2)
          (rec h1 h2 (IntKind.wrap .i64 (h3 + 1)) h4 h5 h6 h7 h8 h9 h10 h11)
          (Option.bind (spec_l02Bit k h5 [(rd x1 0), (rd x1 1)]) fun x3 =>
            cond ((decide (0 ≤ (rd x1 1))) && (decide ((rd x1 1) < 10)))
              (cond ((decide (0 ≤ (rd x1 0))) && (decide ((rd x1 0) < 10)))
                (cond ((decide (0 ≤ (IntKind.wrap .i64 ((BitVec.ofInt (IntKind.bits .i64) h10 ||| BitVec.ofInt (IntKind.bits .i64) x3).toNat : Int)))) && (decide ((IntKind.wrap .i64 ((BitVec.ofInt (IntKind.bits .i64) h10 ||| BitVec.ofInt (IntKind.bits .i64) x3).toNat : Int)) < 512)))
                  (cond ((rd h6 (((0 + (rd x1 1).toNat * 5120) + (rd x1 0).toNat * 512) + (IntKind.wrap .i64 ((BitVec.ofInt (IntKind.bits .i64) h10 ||| BitVec.ofInt (IntKind.bits .i64) x3).toNat : Int)).toNat * 1)) != 0)
                    (rec h1 h2 (IntKind.wrap .i64 (h3 + 1)) h4 h5 h6 h7 h8 h9 h10 h11)
                    (cond ((decide (0 ≤ (rd x1 1))) && (decide ((rd x1 1) < 10)))
                      (cond ((decide (0 ≤ (rd x1 0))) && (decide ((rd x1 0) < 10)))
                        (cond ((decide (0 ≤ (IntKind.wrap .i64 ((BitVec.ofInt (IntKind.bits .i64) h10 ||| BitVec.ofInt (IntKind.bits .i64) x3).toNat : Int)))) && (decide ((IntKind.wrap .i64 ((BitVec.ofInt (IntKind.bits .i64) h10 ||| BitVec.ofInt (IntKind.bits .i64) x3).toNat : Int)) < 512)))
                          (cond (((decide (0 ≤ (IntKind.wrap .i64 (h3 + 1)))) && (decide ((IntKind.wrap .i64 (h3 + 1)) ≤ ((ByteArray.mk #[78, 87, 69, 83]).size : Int)))) && ((decide (0 ≤ h3)) && (decide (h3 ≤ (((IntKind.wrap .i64 (h3 + 1)).toNat : Nat) : Int)))))
                            (cond (decide (h11.size + ((ByteArray.mk #[78, 87, 69, 83]).extract h3.toNat (IntKind.wrap .i64 (h3 + 1)).toNat).size ≤ bigLen))
                              (cond (decide (h7.length * 4 + [([(rd x1 0), (rd x1 1), (IntKind.wrap .i64 ((BitVec.ofInt (IntKind.bits .i64) h10 ||| BitVec.ofInt (IntKind.bits .i64) x3).toNat : Int)), 0], (h11 ++ ((ByteArray.mk #[78, 87, 69, 83]).extract h3.toNat (IntKind.wrap .i64 (h3 + 1)).toNat)))].length * 4 ≤ bigLen))
                                (rec h1 h2 (IntKind.wrap .i64 (h3 + 1)) h4 h5 (List.set h6 (((0 + (rd x1 1).toNat * 5120) + (rd x1 0).toNat * 512) + (IntKind.wrap .i64 ((BitVec.ofInt (IntKind.bits .i64) h10 ||| BitVec.ofInt (IntKind.bits .i64) x3).toNat : Int)).toNat * 1) 1) (h7 ++ [([(rd x1 0), (rd x1 1), (IntKind.wrap .i64 ((BitVec.ofInt (IntKind.bits .i64) h10 ||| BitVec.ofInt (IntKind.bits .i64) x3).toNat : Int)), 0], (h11 ++ ((ByteArray.mk #[78, 87, 69, 83]).extract h3.toNat (IntKind.wrap .i64 (h3 + 1)).toNat)))]) h8 h9 h10 h11)
                                none)
                              none)
                            none)
                          none)
                        none)
                      none))
                  none)
                none)
              none))
    (K1 h1 h2 h4 h5 h6 h7)

def spec_ShortestWhole_l0 {R : Type} (k : Nat) (K1 : Int → Int → (List Int) → (List Int) → (List Int) → (List (List Int × ByteArray)) → Option R) (h1 : Int) (h2 : Int) (h3 : Int) (h4 : List Int) (h5 : List Int) (h6 : List Int) (h7 : List (List Int × ByteArray)) (h8 : Int) (h9 : Int) (h10 : Int) (h11 : ByteArray) : Option R :=
  loopF (fun (rec : Int × Int × Int × (List Int) × (List Int) × (List Int) × (List (List Int × ByteArray)) × Int × Int × Int × ByteArray → Option R) (p : Int × Int × Int × (List Int) × (List Int) × (List Int) × (List (List Int × ByteArray)) × Int × Int × Int × ByteArray) => spec_ShortestWhole_s0 k K1 (fun h1 h2 h3 h4 h5 h6 h7 h8 h9 h10 h11 => rec (h1, h2, h3, h4, h5, h6, h7, h8, h9, h10, h11)) p.1 p.2.1 p.2.2.1 p.2.2.2.1 p.2.2.2.2.1 p.2.2.2.2.2.1 p.2.2.2.2.2.2.1 p.2.2.2.2.2.2.2.1 p.2.2.2.2.2.2.2.2.1 p.2.2.2.2.2.2.2.2.2.1 p.2.2.2.2.2.2.2.2.2.2) k (h1, h2, h3, h4, h5, h6, h7, h8, h9, h10, h11)

def spec_ShortestWhole_s1 {R : Type} (k : Nat) (K1 : ByteArray → Int → Option R) (K2 : Option R) (rec : Int → Int → (List Int) → (List Int) → (List Int) → (List (List Int × ByteArray)) → Option R) (h1 : Int) (h2 : Int) (h3 : List Int) (h4 : List Int) (h5 : List Int) (h6 : List (List Int × ByteArray)) : Option R :=
  cond (decide (h2 < (h6.length : Int)))
    (cond ((decide (0 ≤ h2)) && (decide (h2 < (h6.length : Int))))
      (cond ((rd (recAt h6 h2.toNat).1 2) == h1)
        (K1 ((recAt h6 h2.toNat).2) 0)
        (spec_ShortestWhole_l0 k
          (fun y1 y2 y3 y4 y5 y6 =>
            rec y1 (IntKind.wrap .i64 (y2 + 1)) y3 y4 y5 y6)
          h1 h2 0 h3 h4 h5 h6 (rd (recAt h6 h2.toNat).1 0) (rd (recAt h6 h2.toNat).1 1) (rd (recAt h6 h2.toNat).1 2) ((recAt h6 h2.toNat).2)))
      none)
    (K2)

def spec_ShortestWhole_l1 {R : Type} (k : Nat) (K1 : ByteArray → Int → Option R) (K2 : Option R) (h1 : Int) (h2 : Int) (h3 : List Int) (h4 : List Int) (h5 : List Int) (h6 : List (List Int × ByteArray)) : Option R :=
  loopF (fun (rec : Int × Int × (List Int) × (List Int) × (List Int) × (List (List Int × ByteArray)) → Option R) (p : Int × Int × (List Int) × (List Int) × (List Int) × (List (List Int × ByteArray))) => spec_ShortestWhole_s1 k K1 K2 (fun h1 h2 h3 h4 h5 h6 => rec (h1, h2, h3, h4, h5, h6)) p.1 p.2.1 p.2.2.1 p.2.2.2.1 p.2.2.2.2.1 p.2.2.2.2.2) k (h1, h2, h3, h4, h5, h6)

def spec_ShortestWhole (k : Nat) (a1 : List Int) (a2 : List Int) : Option (ByteArray × Int) :=
  Option.bind (spec_l02Small k a1 [(rd a2 0), (rd a2 1)]) fun x1 =>
    cond (x1 != 0)
      (some ((ByteArray.mk #[]), x1))
      (Option.bind (spec_l01Cells k a1 0) fun x2 =>
        cond (decide (0 ≤ (IntKind.wrap .u64 ((cnt 2 x2) : Int))))
          (Option.bind (spec_l02Bit k x2 [(rd a2 0), (rd a2 1)]) fun x3 =>
            cond ((decide (0 ≤ (rd a2 1))) && (decide ((rd a2 1) < 10)))
              (cond ((decide (0 ≤ (rd a2 0))) && (decide ((rd a2 0) < 10)))
                (cond ((decide (0 ≤ x3)) && (decide (x3 < 512)))
                  (spec_ShortestWhole_l1 k
                    (fun y4 y5 =>
                      some (y4, y5))
                    (some ((ByteArray.mk #[]), 6))
                    (IntKind.wrap .i64 ((IntKind.wrap .i64 (1 * 2 ^ (min (IntKind.wrap .u64 ((cnt 2 x2) : Int)).toNat (IntKind.bits .i64)))) - 1)) 0 a1 x2 (List.set (List.replicate 51200 0) (((0 + (rd a2 1).toNat * 5120) + (rd a2 0).toNat * 512) + x3.toNat * 1) 1) [([(rd a2 0), (rd a2 1), x3, 0], ByteArray.empty)])
                  none)
                none)
              none)
          none)

def impl_within (k : Nat) (a1 : Int) (a2 : Int) (a3 : Int) : Option (Bool) :=
  cond (decide (a2 ≤ a1))
    (some (decide (a1 ≤ a3)))
    (some false)

def impl_Lawn_has (k : Nat) (a1 : List Int) (a2 : List Int) : Option (Bool) :=
  cond (decide ((rd a2 0) ≥ 0))
    (cond (decide ((rd a2 0) < (rd a1 0)))
      (cond (decide ((rd a2 1) ≥ 0))
        (some (decide ((rd a2 1) < (rd a1 1))))
        (some false))
      (some false))
    (some false)

def impl_ValidLawn_s0 {R : Type} (k : Nat) (K1 : Bool → Option R) (K2 : Int → (List Int) → Option R) (rec : Int → Int → Int → (List Int) → Option R) (h1 : Int) (h2 : Int) (h3 : Int) (h4 : List Int) : Option R :=
  cond (decide (h3 < 10))
    (cond ((decide (0 ≤ h1)) && (decide (h1 < 10)))
      (cond ((decide (0 ≤ h3)) && (decide (h3 < 10)))
        (cond (decide ((rd h4 ((2 + h1.toNat * 10) + h3.toNat * 1)) > 3))
          (K1 false)
          (cond ((rd h4 ((2 + h1.toNat * 10) + h3.toNat * 1)) != 0)
            (Option.bind (impl_Lawn_has k h4 [h3, h1]) fun x1 =>
              cond (!x1)
                (K1 false)
                (rec h1 h2 (IntKind.wrap .i8 (h3 + 1)) h4))
            (rec h1 h2 (IntKind.wrap .i8 (h3 + 1)) h4)))
        none)
      none)
    (K2 h2 h4)

def impl_ValidLawn_l0 {R : Type} (k : Nat) (K1 : Bool → Option R) (K2 : Int → (List Int) → Option R) (h1 : Int) (h2 : Int) (h3 : Int) (h4 : List Int) : Option R :=
  loopF (fun (rec : Int × Int × Int × (List Int) → Option R) (p : Int × Int × Int × (List Int)) => impl_ValidLawn_s0 k K1 K2 (fun h1 h2 h3 h4 => rec (h1, h2, h3, h4)) p.1 p.2.1 p.2.2.1 p.2.2.2) k (h1, h2, h3, h4)

def impl_ValidLawn_s1 {R : Type} (k : Nat) (K1 : Bool → Option R) (K2 : Option R) (rec : Int → (List Int) → Option R) (h1 : Int) (h2 : List Int) : Option R :=
  cond (decide (h1 < 10))
    (impl_ValidLawn_l0 k
      (fun y1 =>
        K1 y1)
      (fun y2 y3 =>
        rec (IntKind.wrap .i8 (y2 + 1)) y3)
      h1 h1 0 h2)
    (K2)

def impl_ValidLawn_l1 {R : Type} (k : Nat) (K1 : Bool → Option R) (K2 : Option R) (h1 : Int) (h2 : List Int) : Option R :=
  loopF (fun (rec : Int × (List Int) → Option R) (p : Int × (List Int)) => impl_ValidLawn_s1 k K1 K2 (fun h1 h2 => rec (h1, h2)) p.1 p.2) k (h1, h2)

def impl_ValidLawn (k : Nat) (a1 : List Int) : Option (Bool) :=
  Option.bind (impl_within k (IntKind.wrap .i64 (rd a1 0)) 1 10) fun x1 =>
    cond (!x1)
      (some false)
      (Option.bind (impl_within k (IntKind.wrap .i64 (rd a1 1)) 1 10) fun x2 =>
        cond (!x2)
          (some false)
          (impl_ValidLawn_l1 k
            (fun y3 =>
              some y3)
            (some true)
            0 a1))

def impl_cellsCode_1 (k : Nat) (a1 : List Int) (a2 : List Int) : Option (Bool) :=
  Option.bind (impl_Lawn_has k a2 [(rd a1 0), (rd a1 1)]) fun x1 =>
    some (!x1)

def slices_IndexFunc_impl_Cell_s0 {R : Type} (k : Nat) (K1 : Int → Option R) (K2 : Option R) (rec : (List Int) → (List Int → Option Bool) → Int → Int → Option R) (h1 : List Int) (h2 : List Int → Option Bool) (h3 : Int) (h4 : Int) : Option R :=
  cond (decide (h4 < h3))
    (cond ((decide (0 ≤ h4)) && (decide (h4 < ((cnt 2 h1) : Int))))
      (Option.bind (h2 [(rd h1 (h4.toNat * 2)), (rd h1 ((h4.toNat * 2) + 1))]) fun x1 =>
        cond x1
          (K1 h4)
          (rec h1 h2 h3 (IntKind.wrap .i64 (h4 + 1))))
      none)
    (K2)

def slices_IndexFunc_impl_Cell_l0 {R : Type} (k : Nat) (K1 : Int → Option R) (K2 : Option R) (h1 : List Int) (h2 : List Int → Option Bool) (h3 : Int) (h4 : Int) : Option R :=
  loopF (fun (rec : (List Int) × (List Int → Option Bool) × Int × Int → Option R) (p : (List Int) × (List Int → Option Bool) × Int × Int) => slices_IndexFunc_impl_Cell_s0 k K1 K2 (fun h1 h2 h3 h4 => rec (h1, h2, h3, h4)) p.1 p.2.1 p.2.2.1 p.2.2.2) k (h1, h2, h3, h4)

def slices_IndexFunc_impl_Cell (k : Nat) (a1 : List Int) (a2 : List Int → Option Bool) : Option (Int) :=
  slices_IndexFunc_impl_Cell_l0 k
    (fun y1 =>
      some y1)
    (some (-1))
    a1 a2 ((cnt 2 a1) : Int) 0

def slices_ContainsFunc_impl_Cell (k : Nat) (a1 : List Int) (a2 : List Int → Option Bool) : Option (Bool) :=
  Option.bind (slices_IndexFunc_impl_Cell k a1 a2) fun x1 =>
    some (decide (x1 ≥ 0))

def impl_cellsCode (k : Nat) (a1 : List Int) (a2 : List Int) : Option (Int) :=
  Option.bind (impl_ValidLawn k a1) fun x1 =>
    cond (!x1)
      (some 1)
      (Option.bind (slices_ContainsFunc_impl_Cell k a2 (fun z2 => (impl_cellsCode_1 k [(rd z2 0), (rd z2 1)] a1).bind fun b => some b)) fun x3 =>
        cond x3
          (some 2)
          (some 0))

def impl_Lawn_kind (k : Nat) (a1 : List Int) (a2 : List Int) : Option (Int) :=
  cond ((decide (0 ≤ (rd a2 1))) && (decide ((rd a2 1) < 10)))
    (cond ((decide (0 ≤ (rd a2 0))) && (decide ((rd a2 0) < 10)))
      (some (IntKind.wrap .i64 (rd a1 ((2 + (rd a2 1).toNat * 10) + (rd a2 0).toNat * 1))))
      none)
    none

def impl_Lawn_is (k : Nat) (a1 : List Int) (a2 : List Int) (a3 : Int) : Option (Bool) :=
  Option.bind (impl_Lawn_has k a1 [(rd a2 0), (rd a2 1)]) fun x1 =>
    cond x1
      (Option.bind (impl_Lawn_kind k a1 [(rd a2 0), (rd a2 1)]) fun x2 =>
        some (x2 == a3))
      (some false)

def impl_Lawn_open (k : Nat) (a1 : List Int) (a2 : List Int) : Option (Bool) :=
  Option.bind (impl_Lawn_is k a1 [(rd a2 0), (rd a2 1)] 0) fun x1 =>
    cond x1
      (some true)
      (Option.bind (impl_Lawn_is k a1 [(rd a2 0), (rd a2 1)] 3) fun x2 =>
        some x2)

def impl_openCode_1 (k : Nat) (a1 : List Int) (a2 : List Int) : Option (Bool) :=
  Option.bind (impl_Lawn_open k a2 [(rd a1 0), (rd a1 1)]) fun x1 =>
    some (!x1)

def impl_openCode (k : Nat) (a1 : List Int) (a2 : List Int) : Option (Int) :=
  Option.bind (impl_cellsCode k a1 a2) fun x1 =>
    cond (x1 == 0)
      (Option.bind (slices_ContainsFunc_impl_Cell k a2 (fun z2 => (impl_openCode_1 k [(rd z2 0), (rd z2 1)] a1).bind fun b => some b)) fun x3 =>
        cond x3
          (some 4)
          (some x1))
      (some x1)

def impl_Lawn_grass (k : Nat) (a1 : List Int) (a2 : List Int) : Option (Bool) :=
  Option.bind (impl_Lawn_is k a1 [(rd a2 0), (rd a2 1)] 0) fun x1 =>
    some x1

def impl_Lawn_all_s0 {R : Type} (k : Nat) (K1 : Int → Int → (List Int) → (List Int) → Option R) (rec : Int → Int → Int → Int → Int → (List Int) → (List Int) → Option R) (h1 : Int) (h2 : Int) (h3 : Int) (h4 : Int) (h5 : Int) (h6 : List Int) (h7 : List Int) : Option R :=
  cond (decide (h5 < h4))
    (cond (decide (h7.length + 2 ≤ bigLen))
      (rec h1 h2 h3 h4 (IntKind.wrap .i8 (h5 + 1)) h6 (h7 ++ [h5, h1]))
      none)
    (K1 h2 h3 h6 h7)

def impl_Lawn_all_l0 {R : Type} (k : Nat) (K1 : Int → Int → (List Int) → (List Int) → Option R) (h1 : Int) (h2 : Int) (h3 : Int) (h4 : Int) (h5 : Int) (h6 : List Int) (h7 : List Int) : Option R :=
  loopF (fun (rec : Int × Int × Int × Int × Int × (List Int) × (List Int) → Option R) (p : Int × Int × Int × Int × Int × (List Int) × (List Int)) => impl_Lawn_all_s0 k K1 (fun h1 h2 h3 h4 h5 h6 h7 => rec (h1, h2, h3, h4, h5, h6, h7)) p.1 p.2.1 p.2.2.1 p.2.2.2.1 p.2.2.2.2.1 p.2.2.2.2.2.1 p.2.2.2.2.2.2) k (h1, h2, h3, h4, h5, h6, h7)

def impl_Lawn_all_s1 {R : Type} (k : Nat) (K1 : (List Int) → Option R) (rec : Int → Int → (List Int) → (List Int) → Option R) (h1 : Int) (h2 : Int) (h3 : List Int) (h4 : List Int) : Option R :=
  cond (decide (h2 < h1))
    (impl_Lawn_all_l0 k
      (fun y1 y2 y3 y4 =>
        rec y1 (IntKind.wrap .i8 (y2 + 1)) y3 y4)
      h2 h1 h2 (rd h3 0) 0 h3 h4)
    (K1 h4)

def impl_Lawn_all_l1 {R : Type} (k : Nat) (K1 : (List Int) → Option R) (h1 : Int) (h2 : Int) (h3 : List Int) (h4 : List Int) : Option R :=
  loopF (fun (rec : Int × Int × (List Int) × (List Int) → Option R) (p : Int × Int × (List Int) × (List Int)) => impl_Lawn_all_s1 k K1 (fun h1 h2 h3 h4 => rec (h1, h2, h3, h4)) p.1 p.2.1 p.2.2.1 p.2.2.2) k (h1, h2, h3, h4)

def impl_Lawn_all (k : Nat) (a1 : List Int) : Option ((List Int)) :=
  impl_Lawn_all_l1 k
    (fun y1 =>
      some y1)
    (rd a1 1) 0 a1 []

def impl_Lawn_those_1 (k : Nat) (a1 : List Int) (a2 : List Int → Option Bool) : Option (Bool) :=
  Option.bind (a2 [(rd a1 0), (rd a1 1)]) fun x1 =>
    some (!x1)

def slices_DeleteFunc_impl_Cell_s0 {R : Type} (k : Nat) (K1 : Int → (List Int) → Option R) (rec : (List Int → Option Bool) → Int → Int → (List Int) → Option R) (h1 : List Int → Option Bool) (h2 : Int) (h3 : Int) (h4 : List Int) : Option R :=
  cond (decide (h3 < ((cnt 2 h4) : Int)))
    (cond ((decide (0 ≤ h3)) && (decide (h3 < ((cnt 2 h4) : Int))))
      (Option.bind (h1 [(rd h4 (h3.toNat * 2)), (rd h4 ((h3.toNat * 2) + 1))]) fun x1 =>
        cond (!x1)
          (cond ((decide (0 ≤ h2)) && (decide (h2 < ((cnt 2 h4) : Int))))
            (rec h1 (IntKind.wrap .i64 (h2 + 1)) (IntKind.wrap .i64 (h3 + 1)) (setWin h4 (h2.toNat * 2) 2 [(rd h4 (h3.toNat * 2)), (rd h4 ((h3.toNat * 2) + 1))]))
            none)
          (rec h1 h2 (IntKind.wrap .i64 (h3 + 1)) h4))
      none)
    (K1 h2 h4)

def slices_DeleteFunc_impl_Cell_l0 {R : Type} (k : Nat) (K1 : Int → (List Int) → Option R) (h1 : List Int → Option Bool) (h2 : Int) (h3 : Int) (h4 : List Int) : Option R :=
  loopF (fun (rec : (List Int → Option Bool) × Int × Int × (List Int) → Option R) (p : (List Int → Option Bool) × Int × Int × (List Int)) => slices_DeleteFunc_impl_Cell_s0 k K1 (fun h1 h2 h3 h4 => rec (h1, h2, h3, h4)) p.1 p.2.1 p.2.2.1 p.2.2.2) k (h1, h2, h3, h4)

def slices_DeleteFunc_impl_Cell (k : Nat) (a1 : List Int) (a2 : List Int → Option Bool) : Option ((List Int)) :=
  Option.bind (slices_IndexFunc_impl_Cell k a1 a2) fun x1 =>
    cond (x1 == (-1))
      (some a1)
      (slices_DeleteFunc_impl_Cell_l0 k
        (fun y2 y3 =>
          cond ((decide (0 ≤ y2)) && (decide (y2 ≤ ((cnt 2 y3) : Int))))
            (cond ((decide (0 ≤ y2)) && (decide (y2 ≤ (((cnt 2 (setWin y3 (y2.toNat * 2) (((cnt 2 y3) - y2.toNat) * 2) (List.replicate (((cnt 2 y3) - y2.toNat) * 2) 0))) : Nat) : Int))))
              (some (win (setWin y3 (y2.toNat * 2) (((cnt 2 y3) - y2.toNat) * 2) (List.replicate (((cnt 2 y3) - y2.toNat) * 2) 0)) 0 (y2.toNat * 2)))
              none)
            none)
        a2 x1 (IntKind.wrap .i64 (x1 + 1)) a1)

def impl_Lawn_those (k : Nat) (a1 : List Int) (a2 : List Int → Option Bool) : Option ((List Int)) :=
  Option.bind (impl_Lawn_all k a1) fun x1 =>
    Option.bind (slices_DeleteFunc_impl_Cell k x1 (fun z2 => (impl_Lawn_those_1 k [(rd z2 0), (rd z2 1)] a2).bind fun b => some b)) fun x3 =>
      some x3

def impl_wholeCode (k : Nat) (a1 : List Int) (a2 : List Int) : Option (Int) :=
  Option.bind (impl_openCode k a1 [(rd a2 0), (rd a2 1)]) fun x1 =>
    cond (x1 == 0)
      (Option.bind (impl_Lawn_those k a1 (fun z2 => (impl_Lawn_grass k a1 [(rd z2 0), (rd z2 1)]).bind fun b => some b)) fun x3 =>
        cond (decide (((cnt 2 x3) : Int) > 9))
          (some 3)
          (Option.bind (impl_Lawn_those k a1 (fun z4 => (impl_Lawn_open k a1 [(rd z4 0), (rd z4 1)]).bind fun b => some b)) fun x5 =>
            cond (decide (((cnt 2 x5) : Int) > 16))
              (some 3)
              (some x1)))
      (some x1)

def impl_Lawn_bits_s0 {R : Type} (k : Nat) (K1 : (List (List Int × Int)) → Option R) (rec : Int → Int → (List (List Int × Int)) → (List Int) → Option R) (h1 : Int) (h2 : Int) (h3 : List (List Int × Int)) (h4 : List Int) : Option R :=
  cond (decide (h2 < h1))
    (cond ((decide (0 ≤ h2)) && (decide (h2 < ((cnt 2 h4) : Int))))
      (rec h1 (IntKind.wrap .i64 (h2 + 1)) (putK h3 [(rd h4 (h2.toNat * 2)), (rd h4 ((h2.toNat * 2) + 1))] h2) h4)
      none)
    (K1 h3)

def impl_Lawn_bits_l0 {R : Type} (k : Nat) (K1 : (List (List Int × Int)) → Option R) (h1 : Int) (h2 : Int) (h3 : List (List Int × Int)) (h4 : List Int) : Option R :=
  loopF (fun (rec : Int × Int × (List (List Int × Int)) × (List Int) → Option R) (p : Int × Int × (List (List Int × Int)) × (List Int)) => impl_Lawn_bits_s0 k K1 (fun h1 h2 h3 h4 => rec (h1, h2, h3, h4)) p.1 p.2.1 p.2.2.1 p.2.2.2) k (h1, h2, h3, h4)

def impl_Lawn_bits (k : Nat) (a1 : List Int) : Option ((List (List Int × Int))) :=
  Option.bind (impl_Lawn_those k a1 (fun z1 => (impl_Lawn_grass k a1 [(rd z1 0), (rd z1 1)]).bind fun b => some b)) fun x2 =>
    impl_Lawn_bits_l0 k
      (fun y3 =>
        some y3)
      ((cnt 2 x2) : Int) 0 [] x2

def impl_Lawn_begin (k : Nat) (a1 : List Int) (a2 : List Int) (a3 : List (List Int × Int)) : Option ((List Int)) :=
  cond (hasK a3 [(rd a2 0), (rd a2 1)])
    (cond (decide (0 ≤ (lookK (0 : Int) a3 [(rd a2 0), (rd a2 1)])))
      (some [(rd a2 0), (rd a2 1), 0, (IntKind.wrap .i64 (1 * 2 ^ (min (lookK (0 : Int) a3 [(rd a2 0), (rd a2 1)]).toNat (IntKind.bits .i64))))])
      none)
    (some [(rd a2 0), (rd a2 1), 0, 0])

def impl_beside (k : Nat) (a1 : List Int) : Option ((List Int)) :=
  some [(rd a1 0), (IntKind.wrap .i8 ((rd a1 1) - 1)), (IntKind.wrap .i8 ((rd a1 0) - 1)), (rd a1 1), (IntKind.wrap .i8 ((rd a1 0) + 1)), (rd a1 1), (rd a1 0), (IntKind.wrap .i8 ((rd a1 1) + 1))]

def strings_IndexByte (_k : Nat) (a1 : ByteArray) (a2 : Int) : Option (Int) := some (Lib.indexByte a1.data.toList a2.toNat.toUInt8)

def impl_go1 (k : Nat) (a1 : List Int) (a2 : Int) : Option ((List Int)) :=
  Option.bind (impl_beside k [(rd a1 0), (rd a1 1)]) fun x1 =>
    Option.bind (strings_IndexByte k (ByteArray.mk #[78, 87, 69, 83]) a2) fun x2 =>
      cond ((decide (0 ≤ x2)) && (decide (x2 < ((cnt 2 x1) : Int))))
        (some [(rd x1 (x2.toNat * 2)), (rd x1 ((x2.toNat * 2) + 1))])
        none

def impl_Lawn_next (k : Nat) (a1 : List Int) (a2 : List Int) (a3 : Int) (a4 : List (List Int × Int)) : Option ((List Int) × Bool) :=
  Option.bind (impl_go1 k [(rd a2 0), (rd a2 1)] a3) fun x1 =>
    Option.bind (impl_Lawn_open k a1 [(rd x1 0), (rd x1 1)]) fun x2 =>
      cond (!x2)
        (some ([0, 0, 0, 0], false))
        (cond (hasK a4 [(rd x1 0), (rd x1 1)])
          (cond (decide (0 ≤ (lookK (0 : Int) a4 [(rd x1 0), (rd x1 1)])))
            (some ([(rd (List.set (List.set (setWin a2 0 2 [(rd x1 0), (rd x1 1)]) 2 a3) 3 (IntKind.wrap .i64 ((BitVec.ofInt (IntKind.bits .i64) (rd (List.set (setWin a2 0 2 [(rd x1 0), (rd x1 1)]) 2 a3) 3) ||| BitVec.ofInt (IntKind.bits .i64) (IntKind.wrap .i64 (1 * 2 ^ (min (lookK (0 : Int) a4 [(rd x1 0), (rd x1 1)]).toNat (IntKind.bits .i64))))).toNat : Int))) 0), (rd (List.set (List.set (setWin a2 0 2 [(rd x1 0), (rd x1 1)]) 2 a3) 3 (IntKind.wrap .i64 ((BitVec.ofInt (IntKind.bits .i64) (rd (List.set (setWin a2 0 2 [(rd x1 0), (rd x1 1)]) 2 a3) 3) ||| BitVec.ofInt (IntKind.bits .i64) (IntKind.wrap .i64 (1 * 2 ^ (min (lookK (0 : Int) a4 [(rd x1 0), (rd x1 1)]).toNat (IntKind.bits .i64))))).toNat : Int))) 1), (rd (List.set (List.set (setWin a2 0 2 [(rd x1 0), (rd x1 1)]) 2 a3) 3 (IntKind.wrap .i64 ((BitVec.ofInt (IntKind.bits .i64) (rd (List.set (setWin a2 0 2 [(rd x1 0), (rd x1 1)]) 2 a3) 3) ||| BitVec.ofInt (IntKind.bits .i64) (IntKind.wrap .i64 (1 * 2 ^ (min (lookK (0 : Int) a4 [(rd x1 0), (rd x1 1)]).toNat (IntKind.bits .i64))))).toNat : Int))) 2), (rd (List.set (List.set (setWin a2 0 2 [(rd x1 0), (rd x1 1)]) 2 a3) 3 (IntKind.wrap .i64 ((BitVec.ofInt (IntKind.bits .i64) (rd (List.set (setWin a2 0 2 [(rd x1 0), (rd x1 1)]) 2 a3) 3) ||| BitVec.ofInt (IntKind.bits .i64) (IntKind.wrap .i64 (1 * 2 ^ (min (lookK (0 : Int) a4 [(rd x1 0), (rd x1 1)]).toNat (IntKind.bits .i64))))).toNat : Int))) 3)], true))
            none)
          (some ([(rd (List.set (setWin a2 0 2 [(rd x1 0), (rd x1 1)]) 2 a3) 0), (rd (List.set (setWin a2 0 2 [(rd x1 0), (rd x1 1)]) 2 a3) 1), (rd (List.set (setWin a2 0 2 [(rd x1 0), (rd x1 1)]) 2 a3) 2), (rd (List.set (setWin a2 0 2 [(rd x1 0), (rd x1 1)]) 2 a3) 3)], true)))

def impl_ShortestWhole_s0 {R : Type} (k : Nat) (K1 : Int → (List Int) → (List (List Int × Int)) → (List (List Int × ByteArray)) → (List Int) → Option R) (rec : Int → Int → (List Int) → (List (List Int × Int)) → (List (List Int × ByteArray)) → (List Int) → (List Int) → Option R) (h1 : Int) (h2 : Int) (h3 : List Int) (h4 : List (List Int × Int)) (h5 : List (List Int × ByteArray)) (h6 : List Int) (h7 : List Int) : Option R :=
  cond (decide (h2 < 4))
    (cond ((decide (0 ≤ h2)) && (decide (h2 < ((ByteArray.mk #[78, 87, 69, 83]).size : Int))))
      (Option.bind (impl_Lawn_next k h3 [(rd h7 0), (rd h7 1), (rd h7 2), (rd h7 3)] (((ByteArray.mk #[78, 87, 69, 83]).data.toList.getD h2.toNat 0).toNat : Int) h4) fun x1 =>
        cond x1.2
          (cond (!(hasK h5 [(rd (List.set x1.1 2 0) 0), (rd (List.set x1.1 2 0) 1), (rd (List.set x1.1 2 0) 2), (rd (List.set x1.1 2 0) 3)]))
            (cond (((decide (0 ≤ (IntKind.wrap .i64 (h2 + 1)))) && (decide ((IntKind.wrap .i64 (h2 + 1)) ≤ ((ByteArray.mk #[78, 87, 69, 83]).size : Int)))) && ((decide (0 ≤ h2)) && (decide (h2 ≤ (((IntKind.wrap .i64 (h2 + 1)).toNat : Nat) : Int)))))
              (cond (decide ((lookK ByteArray.empty h5 [(rd h7 0), (rd h7 1), (rd h7 2), (rd h7 3)]).size + ((ByteArray.mk #[78, 87, 69, 83]).extract h2.toNat (IntKind.wrap .i64 (h2 + 1)).toNat).size ≤ bigLen))
                (cond (decide (h6.length + 4 ≤ bigLen))
                  (rec h1 (IntKind.wrap .i64 (h2 + 1)) h3 h4 (putK h5 [(rd (List.set x1.1 2 0) 0), (rd (List.set x1.1 2 0) 1), (rd (List.set x1.1 2 0) 2), (rd (List.set x1.1 2 0) 3)] ((lookK ByteArray.empty h5 [(rd h7 0), (rd h7 1), (rd h7 2), (rd h7 3)]) ++ ((ByteArray.mk #[78, 87, 69, 83]).extract h2.toNat (IntKind.wrap .i64 (h2 + 1)).toNat))) (h6 ++ [(rd (List.set x1.1 2 0) 0), (rd (List.set x1.1 2 0) 1), (rd (List.set x1.1 2 0) 2), (rd (List.set x1.1 2 0) 3)]) h7)
                  none)
                none)
              none)
            (rec h1 (IntKind.wrap .i64 (h2 + 1)) h3 h4 h5 h6 h7))
          (rec h1 (IntKind.wrap .i64 (h2 + 1)) h3 h4 h5 h6 h7))
      none)
    (K1 h1 h3 h4 h5 h6)

def impl_ShortestWhole_l0 {R : Type} (k : Nat) (K1 : Int → (List Int) → (List (List Int × Int)) → (List (List Int × ByteArray)) → (List Int) → Option R) (h1 : Int) (h2 : Int) (h3 : List Int) (h4 : List (List Int × Int)) (h5 : List (List Int × ByteArray)) (h6 : List Int) (h7 : List Int) : Option R :=
  loopF (fun (rec : Int × Int × (List Int) × (List (List Int × Int)) × (List (List Int × ByteArray)) × (List Int) × (List Int) → Option R) (p : Int × Int × (List Int) × (List (List Int × Int)) × (List (List Int × ByteArray)) × (List Int) × (List Int)) => impl_ShortestWhole_s0 k K1 (fun h1 h2 h3 h4 h5 h6 h7 => rec (h1, h2, h3, h4, h5, h6, h7)) p.1 p.2.1 p.2.2.1 p.2.2.2.1 p.2.2.2.2.1 p.2.2.2.2.2.1 p.2.2.2.2.2.2) k (h1, h2, h3, h4, h5, h6, h7)

def impl_ShortestWhole_s1 {R : Type} (k : Nat) (K1 : ByteArray → Int → Option R) (K2 : Option R) (rec : Int → (List Int) → (List (List Int × Int)) → (List (List Int × ByteArray)) → (List Int) → Option R) (h1 : Int) (h2 : List Int) (h3 : List (List Int × Int)) (h4 : List (List Int × ByteArray)) (h5 : List Int) : Option R :=
  cond (decide (((cnt 4 h5) : Int) > 0))
    (cond (decide (0 < ((cnt 4 h5) : Int)))
      (cond ((rd h5 3) == h1)
        (K1 (lookK ByteArray.empty h4 [(rd h5 0), (rd h5 1), (rd h5 2), (rd h5 3)]) 0)
        (impl_ShortestWhole_l0 k
          (fun y1 y2 y3 y4 y5 =>
            cond (decide (1 ≤ ((cnt 4 y5) : Int)))
              (rec y1 y2 y3 y4 (win y5 4 (((cnt 4 y5) - 1) * 4)))
              none)
          h1 0 h2 h3 h4 h5 [(rd h5 0), (rd h5 1), (rd h5 2), (rd h5 3)]))
      none)
    (K2)

def impl_ShortestWhole_l1 {R : Type} (k : Nat) (K1 : ByteArray → Int → Option R) (K2 : Option R) (h1 : Int) (h2 : List Int) (h3 : List (List Int × Int)) (h4 : List (List Int × ByteArray)) (h5 : List Int) : Option R :=
  loopF (fun (rec : Int × (List Int) × (List (List Int × Int)) × (List (List Int × ByteArray)) × (List Int) → Option R) (p : Int × (List Int) × (List (List Int × Int)) × (List (List Int × ByteArray)) × (List Int)) => impl_ShortestWhole_s1 k K1 K2 (fun h1 h2 h3 h4 h5 => rec (h1, h2, h3, h4, h5)) p.1 p.2.1 p.2.2.1 p.2.2.2.1 p.2.2.2.2) k (h1, h2, h3, h4, h5)

def impl_ShortestWhole (k : Nat) (a1 : List Int) (a2 : List Int) : Option (ByteArray × Int) :=
  Option.bind (impl_wholeCode k a1 [(rd a2 0), (rd a2 1)]) fun x1 =>
    cond (x1 != 0)
      (some ((ByteArray.mk #[]), x1))
      (Option.bind (impl_Lawn_bits k a1) fun x2 =>
        Option.bind (impl_Lawn_begin k a1 [(rd a2 0), (rd a2 1)] x2) fun x3 =>
          cond (decide (0 ≤ (x2.length : Int)))
            (impl_ShortestWhole_l1 k
              (fun y4 y5 =>
                some (y4, y5))
              (some ((ByteArray.mk #[]), 6))
              (IntKind.wrap .i64 ((IntKind.wrap .i64 (1 * 2 ^ (min (x2.length : Int).toNat (IntKind.bits .i64)))) - 1)) a1 x2 (putK [] [(rd x3 0), (rd x3 1), (rd x3 2), (rd x3 3)] (ByteArray.mk #[])) [(rd x3 0), (rd x3 1), (rd x3 2), (rd x3 3)])
            none)

def laws_FnExactShortestWhole (k : Nat) (a1 : List Int) (a2 : List Int) : Option (Bool) :=
  Option.bind (laws_toLawn k a1) fun x1 =>
    Option.bind (laws_toCell k [(rd a2 0), (rd a2 1)]) fun x2 =>
      Option.bind (spec_ShortestWhole k x1 x2) fun x3 =>
        Option.bind (laws_toLawn k a1) fun x4 =>
          Option.bind (laws_toCell k [(rd a2 0), (rd a2 1)]) fun x5 =>
            Option.bind (impl_ShortestWhole k x4 x5) fun x6 =>
              cond (!(x6.1.toList == x3.1.toList))
                (some false)
                (cond (x6.2 != x3.2)
                  (some false)
                  (some true))


end Go.Proofs.Ytkdpdmfkomnalaa.Tt
