/- The functions in plain Lean. -/
import Derived.Test.YtkdpdmfkomnalaaE6
set_option linter.unusedVariables false
set_option linter.unusedSimpArgs false
set_option linter.unusedVariables false
namespace Go.Proofs.Ytkdpdmfkomnalaa.Tt
open Go.Ev Go

def laws_a2Long (k : Nat) (a1 : List Int) (a2 : List Int) : Option (Bool) :=
  cond (decide (((cnt 1 a1) : Int) > 3000))
    (some true)
    (some (decide (((cnt 1 a2) : Int) > 3000)))

def spec_l00From (k : Nat) (a1 : List Int) : Option ((List Int) × Int × Int) :=
  some (a1, 0, 0)

def spec_l00Src_next (k : Nat) (a1 : List Int) (a2 : Int) (a3 : Int) : Option ((Int) × ((List Int) × Int × Int)) :=
  cond (decide (a2 < ((cnt 1 a1) : Int)))
    (cond ((decide (0 ≤ a2)) && (decide (a2 < ((cnt 1 a1) : Int))))
      (cond (decide ((IntKind.wrap .i64 (a2 + 1)) ≤ ((cnt 1 a1) : Int)))
        (some ((IntKind.wrap .i64 (rd a1 (a2.toNat * 1))), (a1, (IntKind.wrap .i64 (a2 + 1)), (IntKind.wrap .u64 ((IntKind.wrap .u64 ((IntKind.wrap .u64 (a3 * 6364136223846793005)) + (IntKind.wrap .u64 (IntKind.wrap .i64 (rd a1 (a2.toNat * 1)))))) + 1442695040888963407)))))
        (some ((IntKind.wrap .i64 (IntKind.wrap .u64 ((BitVec.ofInt (IntKind.bits .u64) (Int.fdiv (IntKind.wrap .u64 ((IntKind.wrap .u64 ((IntKind.wrap .u64 (a3 * 6364136223846793005)) + (IntKind.wrap .u64 (IntKind.wrap .i64 (rd a1 (a2.toNat * 1)))))) + 1442695040888963407)) (2 ^ (min (40 : Int).toNat (IntKind.bits .u64)))) &&& BitVec.ofInt (IntKind.bits .u64) 255).toNat : Int))), (a1, (IntKind.wrap .i64 (a2 + 1)), (IntKind.wrap .u64 ((IntKind.wrap .u64 ((IntKind.wrap .u64 (a3 * 6364136223846793005)) + (IntKind.wrap .u64 (IntKind.wrap .i64 (rd a1 (a2.toNat * 1)))))) + 1442695040888963407))))))
      none)
    (cond (decide ((IntKind.wrap .i64 (a2 + 1)) ≤ ((cnt 1 a1) : Int)))
      (some (0, (a1, (IntKind.wrap .i64 (a2 + 1)), (IntKind.wrap .u64 ((IntKind.wrap .u64 ((IntKind.wrap .u64 (a3 * 6364136223846793005)) + 0)) + 1442695040888963407)))))
      (some ((IntKind.wrap .i64 (IntKind.wrap .u64 ((BitVec.ofInt (IntKind.bits .u64) (Int.fdiv (IntKind.wrap .u64 ((IntKind.wrap .u64 ((IntKind.wrap .u64 (a3 * 6364136223846793005)) + 0)) + 1442695040888963407)) (2 ^ (min (40 : Int).toNat (IntKind.bits .u64)))) &&& BitVec.ofInt (IntKind.bits .u64) 255).toNat : Int))), (a1, (IntKind.wrap .i64 (a2 + 1)), (IntKind.wrap .u64 ((IntKind.wrap .u64 ((IntKind.wrap .u64 (a3 * 6364136223846793005)) + 0)) + 1442695040888963407))))))

def spec_l00Src_pick (k : Nat) (a1 : List Int) (a2 : Int) (a3 : Int) (a4 : Int) : Option ((Int) × ((List Int) × Int × Int)) :=
  cond (decide (a4 ≤ 1))
    (some (0, (a1, a2, a3)))
    (Option.bind (spec_l00Src_next k a1 a2 a3) fun x1 =>
      cond (decide (a4 > 200))
        (Option.bind (spec_l00Src_next k x1.2.1 x1.2.2.1 x1.2.2.2) fun x2 =>
          cond (a4 != 0)
            (some ((Int.tmod (IntKind.wrap .i64 ((IntKind.wrap .i64 (x1.1 * 256)) + x2.1)) a4), (x2.2.1, x2.2.2.1, x2.2.2.2)))
            none)
        (cond (a4 != 0)
          (some ((Int.tmod x1.1 a4), (x1.2.1, x1.2.2.1, x1.2.2.2)))
          none))

def spec_l01All_s0 {R : Type} (k : Nat) (K1 : (List Int) → Int → (List Int) → Option R) (rec : (List Int) → Int → Int → (List Int) → Option R) (h1 : List Int) (h2 : Int) (h3 : Int) (h4 : List Int) : Option R :=
  cond (decide (h3 < (rd h1 0)))
    (cond (decide (h4.length + 2 ≤ bigLen))
      (rec h1 h2 (IntKind.wrap .i8 (h3 + 1)) (h4 ++ [h3, h2]))
      none)
    (K1 h1 h2 h4)

def spec_l01All_l0 {R : Type} (k : Nat) (K1 : (List Int) → Int → (List Int) → Option R) (h1 : List Int) (h2 : Int) (h3 : Int) (h4 : List Int) : Option R :=
  loopF (fun (rec : (List Int) × Int × Int × (List Int) → Option R) (p : (List Int) × Int × Int × (List Int)) => spec_l01All_s0 k K1 (fun h1 h2 h3 h4 => rec (h1, h2, h3, h4)) p.1 p.2.1 p.2.2.1 p.2.2.2) k (h1, h2, h3, h4)

def spec_l01All_s1 {R : Type} (k : Nat) (K1 : (List Int) → Option R) (rec : (List Int) → Int → (List Int) → Option R) (h1 : List Int) (h2 : Int) (h3 : List Int) : Option R :=
  cond (decide (h2 < (rd h1 1)))
    (spec_l01All_l0 k
      (fun y1 y2 y3 =>
        rec y1 (IntKind.wrap .i8 (y2 + 1)) y3)
      h1 h2 0 h3)
    (K1 h3)

def spec_l01All_l1 {R : Type} (k : Nat) (K1 : (List Int) → Option R) (h1 : List Int) (h2 : Int) (h3 : List Int) : Option R :=
  loopF (fun (rec : (List Int) × Int × (List Int) → Option R) (p : (List Int) × Int × (List Int)) => spec_l01All_s1 k K1 (fun h1 h2 h3 => rec (h1, h2, h3)) p.1 p.2.1 p.2.2) k (h1, h2, h3)

def spec_l01All (k : Nat) (a1 : List Int) : Option ((List Int)) :=
  spec_l01All_l1 k
    (fun y1 =>
      some y1)
    a1 0 []

def spec_l00Src_one (k : Nat) (a1 : List Int) (a2 : Int) (a3 : Int) (a4 : Int) : Option ((Bool) × ((List Int) × Int × Int)) :=
  Option.bind (spec_l00Src_pick k a1 a2 a3 a4) fun x1 =>
    some ((x1.1 == 0), (x1.2.1, x1.2.2.1, x1.2.2.2))

def spec_l01Drawn_s0 {R : Type} (k : Nat) (K1 : (List Int) → Int → Int → (List Int) → (List Int) → Option R) (rec : Int → Int → (List Int) → Int → Int → (List Int) → (List Int) → (List Int) → Option R) (h1 : Int) (h2 : Int) (h3 : List Int) (h4 : Int) (h5 : Int) (h6 : List Int) (h7 : List Int) (h8 : List Int) : Option R :=
  cond (decide (h2 < ((cnt 2 h8) : Int)))
    (Option.bind (spec_l00Src_one k h3 h4 h5 h1) fun x1 =>
      cond x1.1
        (cond ((decide (0 ≤ h2)) && (decide (h2 < ((cnt 2 h8) : Int))))
          (cond ((decide (0 ≤ h2)) && (decide (h2 < ((cnt 2 h8) : Int))))
            (Option.bind (spec_l00Src_pick k x1.2.1 x1.2.2.1 x1.2.2.2 3) fun x2 =>
              cond ((decide (0 ≤ (rd h8 ((h2.toNat * 2) + 1)))) && (decide ((rd h8 ((h2.toNat * 2) + 1)) < 10)))
                (cond ((decide (0 ≤ (rd h8 (h2.toNat * 2)))) && (decide ((rd h8 (h2.toNat * 2)) < 10)))
                  (rec h1 (IntKind.wrap .i64 (h2 + 1)) x2.2.1 x2.2.2.1 x2.2.2.2 h6 (List.set h7 ((2 + (rd h8 ((h2.toNat * 2) + 1)).toNat * 10) + (rd h8 (h2.toNat * 2)).toNat * 1) (IntKind.wrap .u8 (IntKind.wrap .i64 (1 + x2.1)))) h8)
                  none)
                none)
            none)
          none)
        (rec h1 (IntKind.wrap .i64 (h2 + 1)) x1.2.1 x1.2.2.1 x1.2.2.2 h6 h7 h8))
    (K1 h3 h4 h5 h6 h7)

def spec_l01Drawn_l0 {R : Type} (k : Nat) (K1 : (List Int) → Int → Int → (List Int) → (List Int) → Option R) (h1 : Int) (h2 : Int) (h3 : List Int) (h4 : Int) (h5 : Int) (h6 : List Int) (h7 : List Int) (h8 : List Int) : Option R :=
  loopF (fun (rec : Int × Int × (List Int) × Int × Int × (List Int) × (List Int) × (List Int) → Option R) (p : Int × Int × (List Int) × Int × Int × (List Int) × (List Int) × (List Int)) => spec_l01Drawn_s0 k K1 (fun h1 h2 h3 h4 h5 h6 h7 h8 => rec (h1, h2, h3, h4, h5, h6, h7, h8)) p.1 p.2.1 p.2.2.1 p.2.2.2.1 p.2.2.2.2.1 p.2.2.2.2.2.1 p.2.2.2.2.2.2.1 p.2.2.2.2.2.2.2) k (h1, h2, h3, h4, h5, h6, h7, h8)

def spec_l01Drawn (k : Nat) (a1 : List Int) (a2 : Int) (a3 : Int) : Option (((List Int)) × ((List Int) × Int × Int)) :=
  Option.bind (spec_l00Src_pick k a1 a2 a3 6) fun x1 =>
    Option.bind (spec_l00Src_pick k x1.2.1 x1.2.2.1 x1.2.2.2 6) fun x2 =>
      Option.bind (spec_l00Src_pick k x2.2.1 x2.2.2.1 x2.2.2.2 8) fun x3 =>
        Option.bind (spec_l01All k (List.set (List.set (List.replicate 102 0) 0 (IntKind.wrap .i8 (IntKind.wrap .i64 (1 + x1.1)))) 1 (IntKind.wrap .i8 (IntKind.wrap .i64 (1 + x2.1))))) fun x4 =>
          spec_l01Drawn_l0 k
            (fun y5 y6 y7 y8 y9 =>
              some (y9, (y5, y6, y7)))
            (IntKind.wrap .i64 (2 + x3.1)) 0 x3.2.1 x3.2.2.1 x3.2.2.2 (List.replicate 102 0) (List.set (List.set (List.replicate 102 0) 0 (IntKind.wrap .i8 (IntKind.wrap .i64 (1 + x1.1)))) 1 (IntKind.wrap .i8 (IntKind.wrap .i64 (1 + x2.1)))) x4

def spec_A2Lawn (k : Nat) (a1 : List Int) : Option ((List Int)) :=
  Option.bind (spec_l00From k a1) fun x1 =>
    Option.bind (spec_l01Drawn k x1.1 x1.2.1 x1.2.2) fun x2 =>
      some x2.1

def laws_a2At (k : Nat) (a1 : List Int) (a2 : Int) (a3 : Int) : Option (Int) :=
  cond (decide (a2 ≥ ((cnt 1 a1) : Int)))
    (some 0)
    (cond (decide (a3 < 1))
      (some 0)
      (cond ((decide (0 ≤ a2)) && (decide (a2 < ((cnt 1 a1) : Int))))
        (cond (a3 != 0)
          (some (Int.tmod (IntKind.wrap .i64 (rd a1 (a2.toNat * 1))) a3))
          none)
        none))

def impl_within (k : Nat) (a1 : Int) (a2 : Int) (a3 : Int) : Option (Bool) :=
  cond (decide (a2 ≤ a1))
    (some (decide (a1 ≤ a3)))
    (some false)

def impl_Lawn_has (k : Nat) (a1 : List Int) (a2 : List Int) : Option (Bool) :=
  cond (decide ((rd a2 0) ≥ 0))
    (cond (decide ((rd a2 0) < (rd a1 0)))
      (cond (decide ((rd a2 1) ≥ 0))
        (some (decide ((rd a2 1) < (rd a1 1))))
        (some false))
      (some false))
    (some false)

def impl_ValidLawn_s0 {R : Type} (k : Nat) (K1 : Bool → Option R) (K2 : Int → (List Int) → Option R) (rec : Int → Int → Int → (List Int) → Option R) (h1 : Int) (h2 : Int) (h3 : Int) (h4 : List Int) : Option R :=
  cond (decide (h3 < 10))
    (cond ((decide (0 ≤ h1)) && (decide (h1 < 10)))
      (cond ((decide (0 ≤ h3)) && (decide (h3 < 10)))
        (cond (decide ((rd h4 ((2 + h1.toNat * 10) + h3.toNat * 1)) > 3))
          (K1 false)
          (cond ((rd h4 ((2 + h1.toNat * 10) + h3.toNat * 1)) != 0)
            (Option.bind (impl_Lawn_has k h4 [h3, h1]) fun x1 =>
              cond (!x1)
                (K1 false)
                (rec h1 h2 (IntKind.wrap .i8 (h3 + 1)) h4))
            (rec h1 h2 (IntKind.wrap .i8 (h3 + 1)) h4)))
        none)
      none)
    (K2 h2 h4)

def impl_ValidLawn_l0 {R : Type} (k : Nat) (K1 : Bool → Option R) (K2 : Int → (List Int) → Option R) (h1 : Int) (h2 : Int) (h3 : Int) (h4 : List Int) : Option R :=
  loopF (fun (rec : Int × Int × Int × (List Int) → Option R) (p : Int × Int × Int × (List Int)) => impl_ValidLawn_s0 k K1 K2 (fun h1 h2 h3 h4 => rec (h1, h2, h3, h4)) p.1 p.2.1 p.2.2.1 p.2.2.2) k (h1, h2, h3, h4)

def impl_ValidLawn_s1 {R : Type} (k : Nat) (K1 : Bool → Option R) (K2 : Option R) (rec : Int → (List Int) → Option R) (h1 : Int) (h2 : List Int) : Option R :=
  cond (decide (h1 < 10))
    (impl_ValidLawn_l0 k
      (fun y1 =>
        K1 y1)
      (fun y2 y3 =>
        rec (IntKind.wrap .i8 (y2 + 1)) y3)
      h1 h1 0 h2)
    (K2)

def impl_ValidLawn_l1 {R : Type} (k : Nat) (K1 : Bool → Option R) (K2 : Option R) (h1 : Int) (h2 : List Int) : Option R :=
  loopF (fun (rec : Int × (List Int) → Option R) (p : Int × (List Int)) => impl_ValidLawn_s1 k K1 K2 (fun h1 h2 => rec (h1, h2)) p.1 p.2) k (h1, h2)

def impl_ValidLawn (k : Nat) (a1 : List Int) : Option (Bool) :=
  Option.bind (impl_within k (IntKind.wrap .i64 (rd a1 0)) 1 10) fun x1 =>
    cond (!x1)
      (some false)
      (Option.bind (impl_within k (IntKind.wrap .i64 (rd a1 1)) 1 10) fun x2 =>
        cond (!x2)
          (some false)
          (impl_ValidLawn_l1 k
            (fun y3 =>
              some y3)
            (some true)
            0 a1))

def impl_cellsCode_1 (k : Nat) (a1 : List Int) (a2 : List Int) : Option (Bool) :=
  Option.bind (impl_Lawn_has k a2 [(rd a1 0), (rd a1 1)]) fun x1 =>
    some (!x1)

def slices_IndexFunc_impl_Cell_s0 {R : Type} (k : Nat) (K1 : Int → Option R) (K2 : Option R) (rec : (List Int) → (List Int → Option Bool) → Int → Int → Option R) (h1 : List Int) (h2 : List Int → Option Bool) (h3 : Int) (h4 : Int) : Option R :=
  cond (decide (h4 < h3))
    (cond ((decide (0 ≤ h4)) && (decide (h4 < ((cnt 2 h1) : Int))))
      (Option.bind (h2 [(rd h1 (h4.toNat * 2)), (rd h1 ((h4.toNat * 2) + 1))]) fun x1 =>
        cond x1
          (K1 h4)
          (rec h1 h2 h3 (IntKind.wrap .i64 (h4 + 1))))
      none)
    (K2)

def slices_IndexFunc_impl_Cell_l0 {R : Type} (k : Nat) (K1 : Int → Option R) (K2 : Option R) (h1 : List Int) (h2 : List Int → Option Bool) (h3 : Int) (h4 : Int) : Option R :=
  loopF (fun (rec : (List Int) × (List Int → Option Bool) × Int × Int → Option R) (p : (List Int) × (List Int → Option Bool) × Int × Int) => slices_IndexFunc_impl_Cell_s0 k K1 K2 (fun h1 h2 h3 h4 => rec (h1, h2, h3, h4)) p.1 p.2.1 p.2.2.1 p.2.2.2) k (h1, h2, h3, h4)

def slices_IndexFunc_impl_Cell (k : Nat) (a1 : List Int) (a2 : List Int → Option Bool) : Option (Int) :=
  slices_IndexFunc_impl_Cell_l0 k
    (fun y1 =>
      some y1)
    (some (-1))
    a1 a2 ((cnt 2 a1) : Int) 0

def slices_ContainsFunc_impl_Cell (k : Nat) (a1 : List Int) (a2 : List Int → Option Bool) : Option (Bool) :=
  Option.bind (slices_IndexFunc_impl_Cell k a1 a2) fun x1 =>
    some (decide (x1 ≥ 0))

def impl_cellsCode (k : Nat) (a1 : List Int) (a2 : List Int) : Option (Int) :=
  Option.bind (impl_ValidLawn k a1) fun x1 =>
    cond (!x1)
      (some 1)
      (Option.bind (slices_ContainsFunc_impl_Cell k a2 (fun z2 => (impl_cellsCode_1 k [(rd z2 0), (rd z2 1)] a1).bind fun b => some b)) fun x3 =>
        cond x3
          (some 2)
          (some 0))

def impl_Lawn_all_s0 {R : Type} (k : Nat) (K1 : Int → Int → (List Int) → (List Int) → Option R) (rec : Int → Int → Int → Int → Int → (List Int) → (List Int) → Option R) (h1 : Int) (h2 : Int) (h3 : Int) (h4 : Int) (h5 : Int) (h6 : List Int) (h7 : List Int) : Option R :=
  cond (decide (h5 < h4))
    (cond (decide (h7.length + 2 ≤ bigLen))
      (rec h1 h2 h3 h4 (IntKind.wrap .i8 (h5 + 1)) h6 (h7 ++ [h5, h1]))
      none)
    (K1 h2 h3 h6 h7)

def impl_Lawn_all_l0 {R : Type} (k : Nat) (K1 : Int → Int → (List Int) → (List Int) → Option R) (h1 : Int) (h2 : Int) (h3 : Int) (h4 : Int) (h5 : Int) (h6 : List Int) (h7 : List Int) : Option R :=
  loopF (fun (rec : Int × Int × Int × Int × Int × (List Int) × (List Int) → Option R) (p : Int × Int × Int × Int × Int × (List Int) × (List Int)) => impl_Lawn_all_s0 k K1 (fun h1 h2 h3 h4 h5 h6 h7 => rec (h1, h2, h3, h4, h5, h6, h7)) p.1 p.2.1 p.2.2.1 p.2.2.2.1 p.2.2.2.2.1 p.2.2.2.2.2.1 p.2.2.2.2.2.2) k (h1, h2, h3, h4, h5, h6, h7)

def impl_Lawn_all_s1 {R : Type} (k : Nat) (K1 : (List Int) → Option R) (rec : Int → Int → (List Int) → (List Int) → Option R) (h1 : Int) (h2 : Int) (h3 : List Int) (h4 : List Int) : Option R :=
  cond (decide (h2 < h1))
    (impl_Lawn_all_l0 k
      (fun y1 y2 y3 y4 =>
        rec y1 (IntKind.wrap .i8 (y2 + 1)) y3 y4)
      h2 h1 h2 (rd h3 0) 0 h3 h4)
    (K1 h4)

def impl_Lawn_all_l1 {R : Type} (k : Nat) (K1 : (List Int) → Option R) (h1 : Int) (h2 : Int) (h3 : List Int) (h4 : List Int) : Option R :=
  loopF (fun (rec : Int × Int × (List Int) × (List Int) → Option R) (p : Int × Int × (List Int) × (List Int)) => impl_Lawn_all_s1 k K1 (fun h1 h2 h3 h4 => rec (h1, h2, h3, h4)) p.1 p.2.1 p.2.2.1 p.2.2.2) k (h1, h2, h3, h4)

def impl_Lawn_all (k : Nat) (a1 : List Int) : Option ((List Int)) :=
  impl_Lawn_all_l1 k
    (fun y1 =>
      some y1)
    (rd a1 1) 0 a1 []

def impl_Lawn_kind (k : Nat) (a1 : List Int) (a2 : List Int) : Option (Int) :=
  cond ((decide (0 ≤ (rd a2 1))) && (decide ((rd a2 1) < 10)))
    (cond ((decide (0 ≤ (rd a2 0))) && (decide ((rd a2 0) < 10)))
      (some (IntKind.wrap .i64 (rd a1 ((2 + (rd a2 1).toNat * 10) + (rd a2 0).toNat * 1))))
      none)
    none

def impl_Lawn_is (k : Nat) (a1 : List Int) (a2 : List Int) (a3 : Int) : Option (Bool) :=
  Option.bind (impl_Lawn_has k a1 [(rd a2 0), (rd a2 1)]) fun x1 =>
    cond x1
      (Option.bind (impl_Lawn_kind k a1 [(rd a2 0), (rd a2 1)]) fun x2 =>
        some (x2 == a3))
      (some false)

def impl_Lawn_grass (k : Nat) (a1 : List Int) (a2 : List Int) : Option (Bool) :=
  Option.bind (impl_Lawn_is k a1 [(rd a2 0), (rd a2 1)] 0) fun x1 =>
    some x1

def impl_Lawn_runs_s0 {R : Type} (k : Nat) (K1 : Int → Int → Int → Int → Int → (List Int) → (List Int) → (List Int) → (List Int) → Option R) (rec : Int → Int → Int → Int → Int → (List Int) → (List Int) → (List Int) → (List Int) → Option R) (h1 : Int) (h2 : Int) (h3 : Int) (h4 : Int) (h5 : Int) (h6 : List Int) (h7 : List Int) (h8 : List Int) (h9 : List Int) : Option R :=
  Option.bind (impl_Lawn_grass k h6 [(IntKind.wrap .i8 ((rd h8 0) + (IntKind.wrap .i8 (h3 * h1)))), (IntKind.wrap .i8 ((rd h8 1) + (IntKind.wrap .i8 (h3 * h2))))]) fun x1 =>
    cond x1
      (rec h1 h2 (IntKind.wrap .i8 (h3 + 1)) h4 h5 h6 h7 h8 h9)
      (K1 h1 h2 h3 h4 h5 h6 h7 h8 h9)

def impl_Lawn_runs_l0 {R : Type} (k : Nat) (K1 : Int → Int → Int → Int → Int → (List Int) → (List Int) → (List Int) → (List Int) → Option R) (h1 : Int) (h2 : Int) (h3 : Int) (h4 : Int) (h5 : Int) (h6 : List Int) (h7 : List Int) (h8 : List Int) (h9 : List Int) : Option R :=
  loopF (fun (rec : Int × Int × Int × Int × Int × (List Int) × (List Int) × (List Int) × (List Int) → Option R) (p : Int × Int × Int × Int × Int × (List Int) × (List Int) × (List Int) × (List Int)) => impl_Lawn_runs_s0 k K1 (fun h1 h2 h3 h4 h5 h6 h7 h8 h9 => rec (h1, h2, h3, h4, h5, h6, h7, h8, h9)) p.1 p.2.1 p.2.2.1 p.2.2.2.1 p.2.2.2.2.1 p.2.2.2.2.2.1 p.2.2.2.2.2.2.1 p.2.2.2.2.2.2.2.1 p.2.2.2.2.2.2.2.2) k (h1, h2, h3, h4, h5, h6, h7, h8, h9)

def impl_Lawn_runs_s1 {R : Type} (k : Nat) (K1 : (List Int) → Option R) (rec : Int → Int → Int → Int → (List Int) → (List Int) → (List Int) → Option R) (h1 : Int) (h2 : Int) (h3 : Int) (h4 : Int) (h5 : List Int) (h6 : List Int) (h7 : List Int) : Option R :=
  cond (decide (h4 < h3))
    (cond ((decide (0 ≤ h4)) && (decide (h4 < ((cnt 2 h7) : Int))))
      (Option.bind (impl_Lawn_grass k h5 [(rd h7 (h4.toNat * 2)), (rd h7 ((h4.toNat * 2) + 1))]) fun x1 =>
        cond (!x1)
          (rec h1 h2 h3 (IntKind.wrap .i64 (h4 + 1)) h5 h6 h7)
          (Option.bind (impl_Lawn_grass k h5 [(IntKind.wrap .i8 ((rd h7 (h4.toNat * 2)) - h1)), (IntKind.wrap .i8 ((rd h7 ((h4.toNat * 2) + 1)) - h2))]) fun x2 =>
            cond x2
              (rec h1 h2 h3 (IntKind.wrap .i64 (h4 + 1)) h5 h6 h7)
              (impl_Lawn_runs_l0 k
                (fun y3 y4 y5 y6 y7 y8 y9 y10 y11 =>
                  cond (decide (y9.length + 3 ≤ bigLen))
                    (rec y3 y4 y6 (IntKind.wrap .i64 (y7 + 1)) y8 (y9 ++ [(rd y10 0), (rd y10 1), y5]) y11)
                    none)
                h1 h2 0 h3 h4 h5 h6 [(rd h7 (h4.toNat * 2)), (rd h7 ((h4.toNat * 2) + 1))] h7)))
      none)
    (K1 h6)

def impl_Lawn_runs_l1 {R : Type} (k : Nat) (K1 : (List Int) → Option R) (h1 : Int) (h2 : Int) (h3 : Int) (h4 : Int) (h5 : List Int) (h6 : List Int) (h7 : List Int) : Option R :=
  loopF (fun (rec : Int × Int × Int × Int × (List Int) × (List Int) × (List Int) → Option R) (p : Int × Int × Int × Int × (List Int) × (List Int) × (List Int)) => impl_Lawn_runs_s1 k K1 (fun h1 h2 h3 h4 h5 h6 h7 => rec (h1, h2, h3, h4, h5, h6, h7)) p.1 p.2.1 p.2.2.1 p.2.2.2.1 p.2.2.2.2.1 p.2.2.2.2.2.1 p.2.2.2.2.2.2) k (h1, h2, h3, h4, h5, h6, h7)

def impl_Lawn_runs (k : Nat) (a1 : List Int) (a2 : Bool) : Option ((List Int)) :=
  cond (!a2)
    (Option.bind (impl_Lawn_all k a1) fun x1 =>
      impl_Lawn_runs_l1 k
        (fun y2 =>
          some y2)
        0 1 ((cnt 2 x1) : Int) 0 a1 [] x1)
    (Option.bind (impl_Lawn_all k a1) fun x3 =>
      impl_Lawn_runs_l1 k
        (fun y4 =>
          some y4)
        1 0 ((cnt 2 x3) : Int) 0 a1 [] x3)

def impl_RunsOf (k : Nat) (a1 : List Int) (a2 : Bool) : Option ((List Int) × Int) :=
  Option.bind (impl_cellsCode k a1 []) fun x1 =>
    cond (x1 != 0)
      (some ([], x1))
      (Option.bind (impl_Lawn_runs k a1 a2) fun x2 =>
        some (x2, 0))

def spec_l00In (k : Nat) (a1 : Int) (a2 : Int) (a3 : Int) : Option (Bool) :=
  cond (decide (a1 ≥ a2))
    (some (decide (a1 ≤ a3)))
    (some false)

def spec_l01Side (k : Nat) (a1 : Int) : Option (Bool) :=
  Option.bind (spec_l00In k a1 1 10) fun x1 =>
    some x1

def spec_l01Kind (k : Nat) (a1 : Int) : Option (Bool) :=
  Option.bind (spec_l00In k a1 0 3) fun x1 =>
    some x1

def spec_l01Is (k : Nat) (a1 : List Int) (a2 : List Int) : Option (Bool) :=
  Option.bind (spec_l00In k (IntKind.wrap .i64 (rd a2 0)) 0 (IntKind.wrap .i64 ((IntKind.wrap .i64 (rd a1 0)) - 1))) fun x1 =>
    cond x1
      (Option.bind (spec_l00In k (IntKind.wrap .i64 (rd a2 1)) 0 (IntKind.wrap .i64 ((IntKind.wrap .i64 (rd a1 1)) - 1))) fun x2 =>
        some x2)
      (some false)

def spec_l01Ok_s0 {R : Type} (k : Nat) (K1 : Bool → Option R) (K2 : (List Int) → Int → Option R) (rec : (List Int) → Int → Int → Option R) (h1 : List Int) (h2 : Int) (h3 : Int) : Option R :=
  cond (decide (h3 < 10))
    (cond ((decide (0 ≤ h2)) && (decide (h2 < 10)))
      (cond ((decide (0 ≤ h3)) && (decide (h3 < 10)))
        (Option.bind (spec_l01Kind k (IntKind.wrap .i64 (rd h1 ((2 + h2.toNat * 10) + h3.toNat * 1)))) fun x1 =>
          cond (!x1)
            (K1 false)
            (cond ((IntKind.wrap .i64 (rd h1 ((2 + h2.toNat * 10) + h3.toNat * 1))) != 0)
              (Option.bind (spec_l01Is k h1 [h3, h2]) fun x2 =>
                cond (!x2)
                  (K1 false)
                  (rec h1 h2 (IntKind.wrap .i8 (h3 + 1))))
              (rec h1 h2 (IntKind.wrap .i8 (h3 + 1)))))
        none)
      none)
    (K2 h1 h2)

def spec_l01Ok_l0 {R : Type} (k : Nat) (K1 : Bool → Option R) (K2 : (List Int) → Int → Option R) (h1 : List Int) (h2 : Int) (h3 : Int) : Option R :=
  loopF (fun (rec : (List Int) × Int × Int → Option R) (p : (List Int) × Int × Int) => spec_l01Ok_s0 k K1 K2 (fun h1 h2 h3 => rec (h1, h2, h3)) p.1 p.2.1 p.2.2) k (h1, h2, h3)

def spec_l01Ok_s1 {R : Type} (k : Nat) (K1 : Bool → Option R) (K2 : Option R) (rec : (List Int) → Int → Option R) (h1 : List Int) (h2 : Int) : Option R :=
  cond (decide (h2 < 10))
    (spec_l01Ok_l0 k
      (fun y1 =>
        K1 y1)
      (fun y2 y3 =>
        rec y2 (IntKind.wrap .i8 (y3 + 1)))
      h1 h2 0)
    (K2)

def spec_l01Ok_l1 {R : Type} (k : Nat) (K1 : Bool → Option R) (K2 : Option R) (h1 : List Int) (h2 : Int) : Option R :=
  loopF (fun (rec : (List Int) × Int → Option R) (p : (List Int) × Int) => spec_l01Ok_s1 k K1 K2 (fun h1 h2 => rec (h1, h2)) p.1 p.2) k (h1, h2)

def spec_l01Ok (k : Nat) (a1 : List Int) : Option (Bool) :=
  Option.bind (spec_l01Side k (IntKind.wrap .i64 (rd a1 0))) fun x1 =>
    cond (!x1)
      (some false)
      (Option.bind (spec_l01Side k (IntKind.wrap .i64 (rd a1 1))) fun x2 =>
        cond (!x2)
          (some false)
          (spec_l01Ok_l1 k
            (fun y3 =>
              some y3)
            (some true)
            a1 0))

def spec_l01At (k : Nat) (a1 : List Int) (a2 : List Int) : Option (Int) :=
  cond ((decide (0 ≤ (rd a2 1))) && (decide ((rd a2 1) < 10)))
    (cond ((decide (0 ≤ (rd a2 0))) && (decide ((rd a2 0) < 10)))
      (some (IntKind.wrap .i64 (rd a1 ((2 + (rd a2 1).toNat * 10) + (rd a2 0).toNat * 1))))
      none)
    none

def spec_l01Cells_s0 {R : Type} (k : Nat) (K1 : (List Int) → Option R) (rec : (List Int) → Int → Int → (List Int) → (List Int) → Option R) (h1 : List Int) (h2 : Int) (h3 : Int) (h4 : List Int) (h5 : List Int) : Option R :=
  cond (decide (h3 < ((cnt 2 h5) : Int)))
    (cond ((decide (0 ≤ h3)) && (decide (h3 < ((cnt 2 h5) : Int))))
      (Option.bind (spec_l01At k h1 [(rd h5 (h3.toNat * 2)), (rd h5 ((h3.toNat * 2) + 1))]) fun x1 =>
        cond (x1 == h2)
          (cond ((decide (0 ≤ h3)) && (decide (h3 < ((cnt 2 h5) : Int))))
            (cond (decide (h4.length + 2 ≤ bigLen))
              (rec h1 h2 (IntKind.wrap .i64 (h3 + 1)) (h4 ++ [(rd h5 (h3.toNat * 2)), (rd h5 ((h3.toNat * 2) + 1))]) h5)
              none)
            none)
          (rec h1 h2 (IntKind.wrap .i64 (h3 + 1)) h4 h5))
      none)
    (K1 h4)

def spec_l01Cells_l0 {R : Type} (k : Nat) (K1 : (List Int) → Option R) (h1 : List Int) (h2 : Int) (h3 : Int) (h4 : List Int) (h5 : List Int) : Option R :=
  loopF (fun (rec : (List Int) × Int × Int × (List Int) × (List Int) → Option R) (p : (List Int) × Int × Int × (List Int) × (List Int)) => spec_l01Cells_s0 k K1 (fun h1 h2 h3 h4 h5 => rec (h1, h2, h3, h4, h5)) p.1 p.2.1 p.2.2.1 p.2.2.2.1 p.2.2.2.2) k (h1, h2, h3, h4, h5)

def spec_l01Cells (k : Nat) (a1 : List Int) (a2 : Int) : Option ((List Int)) :=
  Option.bind (spec_l01All k a1) fun x1 =>
    spec_l01Cells_l0 k
      (fun y2 =>
        some y2)
      a1 a2 0 [] x1

def spec_l01Back (k : Nat) (a1 : List Int) (a2 : Bool) (a3 : Int) : Option ((List Int)) :=
  cond a2
    (some [(IntKind.wrap .i8 ((rd a1 0) - a3)), (rd a1 1)])
    (some [(rd a1 0), (IntKind.wrap .i8 ((rd a1 1) - a3))])

def spec_l01Grass (k : Nat) (a1 : List Int) (a2 : List Int) : Option (Bool) :=
  Option.bind (spec_l01Is k a1 [(rd a2 0), (rd a2 1)]) fun x1 =>
    cond x1
      (Option.bind (spec_l01At k a1 [(rd a2 0), (rd a2 1)]) fun x2 =>
        some (x2 == 0))
      (some false)

def spec_l01Runs_s0 {R : Type} (k : Nat) (K1 : (List Int) → Bool → Int → (List Int) → (List Int) → (List Int) → Option R) (rec : (List Int) → Bool → Int → (List Int) → (List Int) → (List Int) → Option R) (h1 : List Int) (h2 : Bool) (h3 : Int) (h4 : List Int) (h5 : List Int) (h6 : List Int) : Option R :=
  cond ((decide (0 ≤ h3)) && (decide (h3 < ((cnt 2 h5) : Int))))
    (Option.bind (spec_l01Back k [(rd h5 (h3.toNat * 2)), (rd h5 ((h3.toNat * 2) + 1))] h2 (IntKind.wrap .i8 (0 - (rd h6 2)))) fun x1 =>
      Option.bind (spec_l01Grass k h1 x1) fun x2 =>
        cond x2
          (rec h1 h2 h3 h4 h5 (List.set h6 2 (IntKind.wrap .i8 ((rd h6 2) + 1))))
          (K1 h1 h2 h3 h4 h5 h6))
    none

def spec_l01Runs_l0 {R : Type} (k : Nat) (K1 : (List Int) → Bool → Int → (List Int) → (List Int) → (List Int) → Option R) (h1 : List Int) (h2 : Bool) (h3 : Int) (h4 : List Int) (h5 : List Int) (h6 : List Int) : Option R :=
  loopF (fun (rec : (List Int) × Bool × Int × (List Int) × (List Int) × (List Int) → Option R) (p : (List Int) × Bool × Int × (List Int) × (List Int) × (List Int)) => spec_l01Runs_s0 k K1 (fun h1 h2 h3 h4 h5 h6 => rec (h1, h2, h3, h4, h5, h6)) p.1 p.2.1 p.2.2.1 p.2.2.2.1 p.2.2.2.2.1 p.2.2.2.2.2) k (h1, h2, h3, h4, h5, h6)

def spec_l01Runs_s1 {R : Type} (k : Nat) (K1 : (List Int) → Option R) (rec : (List Int) → Bool → Int → (List Int) → (List Int) → Option R) (h1 : List Int) (h2 : Bool) (h3 : Int) (h4 : List Int) (h5 : List Int) : Option R :=
  cond (decide (h3 < ((cnt 2 h5) : Int)))
    (cond ((decide (0 ≤ h3)) && (decide (h3 < ((cnt 2 h5) : Int))))
      (Option.bind (spec_l01Back k [(rd h5 (h3.toNat * 2)), (rd h5 ((h3.toNat * 2) + 1))] h2 1) fun x1 =>
        Option.bind (spec_l01Grass k h1 x1) fun x2 =>
          cond x2
            (rec h1 h2 (IntKind.wrap .i64 (h3 + 1)) h4 h5)
            (cond ((decide (0 ≤ h3)) && (decide (h3 < ((cnt 2 h5) : Int))))
              (spec_l01Runs_l0 k
                (fun y3 y4 y5 y6 y7 y8 =>
                  cond (decide (y6.length + 3 ≤ bigLen))
                    (rec y3 y4 (IntKind.wrap .i64 (y5 + 1)) (y6 ++ [(rd y8 0), (rd y8 1), (rd y8 2)]) y7)
                    none)
                h1 h2 h3 h4 h5 [(rd h5 (h3.toNat * 2)), (rd h5 ((h3.toNat * 2) + 1)), 0])
              none))
      none)
    (K1 h4)

def spec_l01Runs_l1 {R : Type} (k : Nat) (K1 : (List Int) → Option R) (h1 : List Int) (h2 : Bool) (h3 : Int) (h4 : List Int) (h5 : List Int) : Option R :=
  loopF (fun (rec : (List Int) × Bool × Int × (List Int) × (List Int) → Option R) (p : (List Int) × Bool × Int × (List Int) × (List Int)) => spec_l01Runs_s1 k K1 (fun h1 h2 h3 h4 h5 => rec (h1, h2, h3, h4, h5)) p.1 p.2.1 p.2.2.1 p.2.2.2.1 p.2.2.2.2) k (h1, h2, h3, h4, h5)

def spec_l01Runs (k : Nat) (a1 : List Int) (a2 : Bool) : Option ((List Int)) :=
  Option.bind (spec_l01Cells k a1 0) fun x1 =>
    spec_l01Runs_l1 k
      (fun y2 =>
        some y2)
      a1 a2 0 [] x1

def spec_RunsOf (k : Nat) (a1 : List Int) (a2 : Bool) : Option ((List Int) × Int) :=
  Option.bind (spec_l01Ok k a1) fun x1 =>
    cond (!x1)
      (some ([], 1))
      (Option.bind (spec_l01Runs k a1 a2) fun x2 =>
        some (x2, 0))

def impl_LongestRun_s0 {R : Type} (k : Nat) (K1 : (List Int) → (List Int) → Option R) (rec : Int → Int → (List Int) → (List Int) → (List Int) → Option R) (h1 : Int) (h2 : Int) (h3 : List Int) (h4 : List Int) (h5 : List Int) : Option R :=
  cond (decide (h2 < h1))
    (cond ((decide (0 ≤ h2)) && (decide (h2 < ((cnt 3 h5) : Int))))
      (cond (decide ((rd h5 ((h2.toNat * 3) + 2)) > (rd h4 2)))
        (rec h1 (IntKind.wrap .i64 (h2 + 1)) h3 [(rd h5 (h2.toNat * 3)), (rd h5 ((h2.toNat * 3) + 1)), (rd h5 ((h2.toNat * 3) + 2))] h5)
        (rec h1 (IntKind.wrap .i64 (h2 + 1)) h3 h4 h5))
      none)
    (K1 h3 h4)

def impl_LongestRun_l0 {R : Type} (k : Nat) (K1 : (List Int) → (List Int) → Option R) (h1 : Int) (h2 : Int) (h3 : List Int) (h4 : List Int) (h5 : List Int) : Option R :=
  loopF (fun (rec : Int × Int × (List Int) × (List Int) × (List Int) → Option R) (p : Int × Int × (List Int) × (List Int) × (List Int)) => impl_LongestRun_s0 k K1 (fun h1 h2 h3 h4 h5 => rec (h1, h2, h3, h4, h5)) p.1 p.2.1 p.2.2.1 p.2.2.2.1 p.2.2.2.2) k (h1, h2, h3, h4, h5)

def impl_LongestRun (k : Nat) (a1 : List Int) (a2 : Bool) : Option ((List Int) × Int) :=
  Option.bind (impl_cellsCode k a1 []) fun x1 =>
    cond (x1 != 0)
      (some ([0, 0, 0], x1))
      (Option.bind (impl_Lawn_runs k a1 a2) fun x2 =>
        impl_LongestRun_l0 k
          (fun y3 y4 =>
            cond ((rd y4 2) == 0)
              (some ([0, 0, 0], 6))
              (some ([(rd y4 0), (rd y4 1), (rd y4 2)], 0)))
          ((cnt 3 x2) : Int) 0 [0, 0, 0] [0, 0, 0] x2)

def spec_LongestRun_s0 {R : Type} (k : Nat) (K1 : (List Int) → (List Int) → Option R) (rec : Int → (List Int) → (List Int) → (List Int) → Option R) (h1 : Int) (h2 : List Int) (h3 : List Int) (h4 : List Int) : Option R :=
  cond (decide (h1 < ((cnt 3 h4) : Int)))
    (cond ((decide (0 ≤ h1)) && (decide (h1 < ((cnt 3 h4) : Int))))
      (cond (decide ((rd h4 ((h1.toNat * 3) + 2)) > (rd h3 2)))
        (cond ((decide (0 ≤ h1)) && (decide (h1 < ((cnt 3 h4) : Int))))
          (rec (IntKind.wrap .i64 (h1 + 1)) h2 [(rd h4 (h1.toNat * 3)), (rd h4 ((h1.toNat * 3) + 1)), (rd h4 ((h1.toNat * 3) + 2))] h4)
          none)
        (rec (IntKind.wrap .i64 (h1 + 1)) h2 h3 h4))
      none)
    (K1 h2 h3)

def spec_LongestRun_l0 {R : Type} (k : Nat) (K1 : (List Int) → (List Int) → Option R) (h1 : Int) (h2 : List Int) (h3 : List Int) (h4 : List Int) : Option R :=
  loopF (fun (rec : Int × (List Int) × (List Int) × (List Int) → Option R) (p : Int × (List Int) × (List Int) × (List Int)) => spec_LongestRun_s0 k K1 (fun h1 h2 h3 h4 => rec (h1, h2, h3, h4)) p.1 p.2.1 p.2.2.1 p.2.2.2) k (h1, h2, h3, h4)

def spec_LongestRun (k : Nat) (a1 : List Int) (a2 : Bool) : Option ((List Int) × Int) :=
  Option.bind (spec_l01Ok k a1) fun x1 =>
    cond (!x1)
      (some ([0, 0, 0], 1))
      (Option.bind (spec_l01Runs k a1 a2) fun x2 =>
        spec_LongestRun_l0 k
          (fun y3 y4 =>
            cond ((rd y4 2) == 0)
              (some ([0, 0, 0], 6))
              (some ([(rd y4 0), (rd y4 1), (rd y4 2)], 0)))
          0 [0, 0, 0] [0, 0, 0] x2)

def impl_BestStripes (k : Nat) (a1 : List Int) : Option (Bool × Int × Int) :=
  Option.bind (impl_cellsCode k a1 []) fun x1 =>
    cond (x1 != 0)
      (some (false, 0, x1))
      (Option.bind (impl_Lawn_runs k a1 true) fun x2 =>
        Option.bind (impl_Lawn_runs k a1 false) fun x3 =>
          some ((decide (((cnt 3 x2) : Int) ≤ ((cnt 3 x3) : Int))), (minI ((cnt 3 x2) : Int) ((cnt 3 x3) : Int)), 0))

def spec_l00Min (k : Nat) (a1 : Int) (a2 : Int) : Option (Int) :=
  cond (decide (a1 < a2))
    (some a1)
    (some a2)

def spec_BestStripes (k : Nat) (a1 : List Int) : Option (Bool × Int × Int) :=
  Option.bind (spec_l01Ok k a1) fun x1 =>
    cond (!x1)
      (some (false, 0, 1))
      (Option.bind (spec_l01Runs k a1 true) fun x2 =>
        Option.bind (spec_l01Runs k a1 false) fun x3 =>
          Option.bind (spec_l00Min k ((cnt 3 x2) : Int) ((cnt 3 x3) : Int)) fun x4 =>
            some ((decide (((cnt 3 x2) : Int) ≤ ((cnt 3 x3) : Int))), x4, 0))

def spec_l01Told (k : Nat) (a1 : List Int) (a2 : Bool) : Option (Int) :=
  Option.bind (spec_l01Ok k a1) fun x1 =>
    cond (!x1)
      (some 1)
      (cond (!a2)
        (some 2)
        (some 0))

def spec_CellsOf (k : Nat) (a1 : List Int) (a2 : Int) : Option ((List Int) × Int) :=
  Option.bind (spec_l01Kind k a2) fun x1 =>
    Option.bind (spec_l01Told k a1 x1) fun x2 =>
      cond (x2 != 0)
        (some ([], x2))
        (Option.bind (spec_l01Cells k a1 a2) fun x3 =>
          some (x3, 0))

def spec_SameRuns_s0 {R : Type} (k : Nat) (K1 : Bool → Option R) (K2 : Option R) (rec : (List Int) → (List Int) → Int → Option R) (h1 : List Int) (h2 : List Int) (h3 : Int) : Option R :=
  cond (decide (h3 < ((cnt 3 h1) : Int)))
    (cond ((decide (0 ≤ h3)) && (decide (h3 < ((cnt 3 h1) : Int))))
      (cond ((decide (0 ≤ h3)) && (decide (h3 < ((cnt 3 h2) : Int))))
        (cond (!(eqL [(rd h1 (h3.toNat * 3)), (rd h1 ((h3.toNat * 3) + 1)), (rd h1 ((h3.toNat * 3) + 2))] [(rd h2 (h3.toNat * 3)), (rd h2 ((h3.toNat * 3) + 1)), (rd h2 ((h3.toNat * 3) + 2))]))
          (K1 false)
          (rec h1 h2 (IntKind.wrap .i64 (h3 + 1))))
        none)
      none)
    (K2)

def spec_SameRuns_l0 {R : Type} (k : Nat) (K1 : Bool → Option R) (K2 : Option R) (h1 : List Int) (h2 : List Int) (h3 : Int) : Option R :=
  loopF (fun (rec : (List Int) × (List Int) × Int → Option R) (p : (List Int) × (List Int) × Int) => spec_SameRuns_s0 k K1 K2 (fun h1 h2 h3 => rec (h1, h2, h3)) p.1 p.2.1 p.2.2) k (h1, h2, h3)

def spec_SameRuns (k : Nat) (a1 : List Int) (a2 : List Int) : Option (Bool) :=
  cond (((cnt 3 a1) : Int) != ((cnt 3 a2) : Int))
    (some false)
    (spec_SameRuns_l0 k
      (fun y1 =>
        some y1)
      (some true)
      a1 a2 0)

def impl_KindAt (k : Nat) (a1 : List Int) (a2 : List Int) : Option (Int × Int) :=
  Option.bind (impl_cellsCode k a1 [(rd a2 0), (rd a2 1)]) fun x1 =>
    cond (x1 != 0)
      (some (0, x1))
      (Option.bind (impl_Lawn_kind k a1 [(rd a2 0), (rd a2 1)]) fun x2 =>
        some (x2, 0))

def impl_StripeOf_1 (k : Nat) (a1 : List Int) (a2 : List Int) (a3 : List Int) : Option (Bool) :=
  cond ((rd a2 0) != 0)
    (cond ((rd a1 1) == (rd a3 1))
      (cond (decide ((rd a3 0) ≥ (rd a1 0)))
        (some (decide ((rd a3 0) < (IntKind.wrap .i8 ((rd a1 0) + (rd a1 2))))))
        (some false))
      (some false))
    (cond ((rd a1 0) == (rd a3 0))
      (cond (decide ((rd a3 1) ≥ (rd a1 1)))
        (some (decide ((rd a3 1) < (IntKind.wrap .i8 ((rd a1 1) + (rd a1 2))))))
        (some false))
      (some false))

def slices_IndexFunc_impl_Run_s0 {R : Type} (k : Nat) (K1 : Int → Option R) (K2 : Option R) (rec : (List Int) → (List Int → Option Bool) → Int → Int → Option R) (h1 : List Int) (h2 : List Int → Option Bool) (h3 : Int) (h4 : Int) : Option R :=
  cond (decide (h4 < h3))
    (cond ((decide (0 ≤ h4)) && (decide (h4 < ((cnt 3 h1) : Int))))
      (Option.bind (h2 [(rd h1 (h4.toNat * 3)), (rd h1 ((h4.toNat * 3) + 1)), (rd h1 ((h4.toNat * 3) + 2))]) fun x1 =>
        cond x1
          (K1 h4)
          (rec h1 h2 h3 (IntKind.wrap .i64 (h4 + 1))))
      none)
    (K2)

def slices_IndexFunc_impl_Run_l0 {R : Type} (k : Nat) (K1 : Int → Option R) (K2 : Option R) (h1 : List Int) (h2 : List Int → Option Bool) (h3 : Int) (h4 : Int) : Option R :=
  loopF (fun (rec : (List Int) × (List Int → Option Bool) × Int × Int → Option R) (p : (List Int) × (List Int → Option Bool) × Int × Int) => slices_IndexFunc_impl_Run_s0 k K1 K2 (fun h1 h2 h3 h4 => rec (h1, h2, h3, h4)) p.1 p.2.1 p.2.2.1 p.2.2.2) k (h1, h2, h3, h4)

def slices_IndexFunc_impl_Run (k : Nat) (a1 : List Int) (a2 : List Int → Option Bool) : Option (Int) :=
  slices_IndexFunc_impl_Run_l0 k
    (fun y1 =>
      some y1)
    (some (-1))
    a1 a2 ((cnt 3 a1) : Int) 0

def impl_StripeOf (k : Nat) (a1 : List Int) (a2 : List Int) (a3 : Bool) : Option (Int × Int) :=
  Option.bind (impl_cellsCode k a1 [(rd a2 0), (rd a2 1)]) fun x1 =>
    cond (x1 == 0)
      (Option.bind (impl_Lawn_grass k a1 [(rd a2 0), (rd a2 1)]) fun x2 =>
        cond (!x2)
          (some (0, 4))
          (cond (x1 != 0)
            (some (0, x1))
            (Option.bind (impl_Lawn_runs k a1 ((cond a3 (1 : Int) 0) != 0)) fun x3 =>
              Option.bind (slices_IndexFunc_impl_Run k x3 (fun z4 => (impl_StripeOf_1 k [(rd z4 0), (rd z4 1), (rd z4 2)] [(cond a3 (1 : Int) 0)] a2).bind fun b => some b)) fun x5 =>
                some (x5, 0))))
      (cond (x1 != 0)
        (some (0, x1))
        (Option.bind (impl_Lawn_runs k a1 ((cond a3 (1 : Int) 0) != 0)) fun x6 =>
          Option.bind (slices_IndexFunc_impl_Run k x6 (fun z7 => (impl_StripeOf_1 k [(rd z7 0), (rd z7 1), (rd z7 2)] [(cond a3 (1 : Int) 0)] a2).bind fun b => some b)) fun x8 =>
            some (x8, 0)))

def laws_FnRuns_s0 {R : Type} (k : Nat) (K1 : Bool → Option R) (K2 : Bool → Int → Int → (List Int) → (List Int) → (List Int) → (List Int) → (List Int) → Option R) (rec : Bool → Int → Int → Int → (List Int) → (List Int) → (List Int) → (List Int) → (List Int) → Option R) (h1 : Bool) (h2 : Int) (h3 : Int) (h4 : Int) (h5 : List Int) (h6 : List Int) (h7 : List Int) (h8 : List Int) (h9 : List Int) : Option R :=
  cond ((decide (0 ≤ h3)) && (decide (h3 < ((cnt 3 h6) : Int))))
    (cond (decide (h4 ≤ (rd h6 ((h3.toNat * 3) + 2))))
      (cond ((decide (0 ≤ h3)) && (decide (h3 < ((cnt 3 h6) : Int))))
        (cond h1
          (cond (decide (h4 < 0))
            (Option.bind (impl_KindAt k h5 [(IntKind.wrap .i8 ((rd h6 (h3.toNat * 3)) + h4)), (rd h6 ((h3.toNat * 3) + 1))]) fun x1 =>
              cond (x1.2 == 0)
                (cond (x1.1 == 0)
                  (K1 false)
                  (rec h1 h2 h3 (IntKind.wrap .i8 (h4 + 1)) h5 h6 h7 h8 h9))
                (rec h1 h2 h3 (IntKind.wrap .i8 (h4 + 1)) h5 h6 h7 h8 h9))
            (cond ((decide (0 ≤ h3)) && (decide (h3 < ((cnt 3 h6) : Int))))
              (Option.bind (impl_KindAt k h5 [(IntKind.wrap .i8 ((rd h6 (h3.toNat * 3)) + h4)), (rd h6 ((h3.toNat * 3) + 1))]) fun x2 =>
                cond (h4 == (rd h6 ((h3.toNat * 3) + 2)))
                  (cond (x2.2 == 0)
                    (cond (x2.1 == 0)
                      (K1 false)
                      (rec h1 h2 h3 (IntKind.wrap .i8 (h4 + 1)) h5 h6 h7 h8 h9))
                    (rec h1 h2 h3 (IntKind.wrap .i8 (h4 + 1)) h5 h6 h7 h8 h9))
                  (Option.bind (impl_StripeOf k h5 [(IntKind.wrap .i8 ((rd h6 (h3.toNat * 3)) + h4)), (rd h6 ((h3.toNat * 3) + 1))] h1) fun x3 =>
                    cond (x2.2 != 0)
                      (K1 false)
                      (cond (x2.1 != 0)
                        (K1 false)
                        (cond ((decide (0 ≤ (rd h6 ((h3.toNat * 3) + 1)))) && (decide ((rd h6 ((h3.toNat * 3) + 1)) < 10)))
                          (cond ((decide (0 ≤ (IntKind.wrap .i8 ((rd h6 (h3.toNat * 3)) + h4)))) && (decide ((IntKind.wrap .i8 ((rd h6 (h3.toNat * 3)) + h4)) < 10)))
                            (cond ((rd h9 ((0 + (rd h6 ((h3.toNat * 3) + 1)).toNat * 10) + (IntKind.wrap .i8 ((rd h6 (h3.toNat * 3)) + h4)).toNat * 1)) != 0)
                              (K1 false)
                              (cond (x3.2 != 0)
                                (K1 false)
                                (cond (x3.1 != h3)
                                  (K1 false)
                                  (cond ((decide (0 ≤ (rd h6 ((h3.toNat * 3) + 1)))) && (decide ((rd h6 ((h3.toNat * 3) + 1)) < 10)))
                                    (cond ((decide (0 ≤ (IntKind.wrap .i8 ((rd h6 (h3.toNat * 3)) + h4)))) && (decide ((IntKind.wrap .i8 ((rd h6 (h3.toNat * 3)) + h4)) < 10)))
                                      (rec h1 h2 h3 (IntKind.wrap .i8 (h4 + 1)) h5 h6 h7 h8 (List.set h9 ((0 + (rd h6 ((h3.toNat * 3) + 1)).toNat * 10) + (IntKind.wrap .i8 ((rd h6 (h3.toNat * 3)) + h4)).toNat * 1) 1))
                                      none)
                                    none))))
                            none)
                          none))))
              none))
          (cond (decide (h4 < 0))
            (Option.bind (impl_KindAt k h5 [(rd h6 (h3.toNat * 3)), (IntKind.wrap .i8 ((rd h6 ((h3.toNat * 3) + 1)) + h4))]) fun x4 =>
              cond (x4.2 == 0)
                (cond (x4.1 == 0)
                  (K1 false)
                  (rec h1 h2 h3 (IntKind.wrap .i8 (h4 + 1)) h5 h6 h7 h8 h9))
                (rec h1 h2 h3 (IntKind.wrap .i8 (h4 + 1)) h5 h6 h7 h8 h9))
            (cond ((decide (0 ≤ h3)) && (decide (h3 < ((cnt 3 h6) : Int))))
              (Option.bind (impl_KindAt k h5 [(rd h6 (h3.toNat * 3)), (IntKind.wrap .i8 ((rd h6 ((h3.toNat * 3) + 1)) + h4))]) fun x5 =>
                cond (h4 == (rd h6 ((h3.toNat * 3) + 2)))
                  (cond (x5.2 == 0)
                    (cond (x5.1 == 0)
                      (K1 false)
                      (rec h1 h2 h3 (IntKind.wrap .i8 (h4 + 1)) h5 h6 h7 h8 h9))
                    (rec h1 h2 h3 (IntKind.wrap .i8 (h4 + 1)) h5 h6 h7 h8 h9))
                  (Option.bind (impl_StripeOf k h5 [(rd h6 (h3.toNat * 3)), (IntKind.wrap .i8 ((rd h6 ((h3.toNat * 3) + 1)) + h4))] h1) fun x6 =>
                    cond (x5.2 != 0)
                      (K1 false)
                      (cond (x5.1 != 0)
                        (K1 false)
                        (cond ((decide (0 ≤ (IntKind.wrap .i8 ((rd h6 ((h3.toNat * 3) + 1)) + h4)))) && (decide ((IntKind.wrap .i8 ((rd h6 ((h3.toNat * 3) + 1)) + h4)) < 10)))
                          (cond ((decide (0 ≤ (rd h6 (h3.toNat * 3)))) && (decide ((rd h6 (h3.toNat * 3)) < 10)))
                            (cond ((rd h9 ((0 + (IntKind.wrap .i8 ((rd h6 ((h3.toNat * 3) + 1)) + h4)).toNat * 10) + (rd h6 (h3.toNat * 3)).toNat * 1)) != 0)
                              (K1 false)
                              (cond (x6.2 != 0)
                                (K1 false)
                                (cond (x6.1 != h3)
                                  (K1 false)
                                  (cond ((decide (0 ≤ (IntKind.wrap .i8 ((rd h6 ((h3.toNat * 3) + 1)) + h4)))) && (decide ((IntKind.wrap .i8 ((rd h6 ((h3.toNat * 3) + 1)) + h4)) < 10)))
                                    (cond ((decide (0 ≤ (rd h6 (h3.toNat * 3)))) && (decide ((rd h6 (h3.toNat * 3)) < 10)))
                                      (rec h1 h2 h3 (IntKind.wrap .i8 (h4 + 1)) h5 h6 h7 h8 (List.set h9 ((0 + (IntKind.wrap .i8 ((rd h6 ((h3.toNat * 3) + 1)) + h4)).toNat * 10) + (rd h6 (h3.toNat * 3)).toNat * 1) 1))
                                      none)
                                    none))))
                            none)
                          none))))
              none)))
        none)
      (K2 h1 h2 h3 h5 h6 h7 h8 h9))
    none

def laws_FnRuns_l0 {R : Type} (k : Nat) (K1 : Bool → Option R) (K2 : Bool → Int → Int → (List Int) → (List Int) → (List Int) → (List Int) → (List Int) → Option R) (h1 : Bool) (h2 : Int) (h3 : Int) (h4 : Int) (h5 : List Int) (h6 : List Int) (h7 : List Int) (h8 : List Int) (h9 : List Int) : Option R :=
  loopF (fun (rec : Bool × Int × Int × Int × (List Int) × (List Int) × (List Int) × (List Int) × (List Int) → Option R) (p : Bool × Int × Int × Int × (List Int) × (List Int) × (List Int) × (List Int) × (List Int)) => laws_FnRuns_s0 k K1 K2 (fun h1 h2 h3 h4 h5 h6 h7 h8 h9 => rec (h1, h2, h3, h4, h5, h6, h7, h8, h9)) p.1 p.2.1 p.2.2.1 p.2.2.2.1 p.2.2.2.2.1 p.2.2.2.2.2.1 p.2.2.2.2.2.2.1 p.2.2.2.2.2.2.2.1 p.2.2.2.2.2.2.2.2) k (h1, h2, h3, h4, h5, h6, h7, h8, h9)

def laws_FnRuns_s1 {R : Type} (k : Nat) (K1 : Bool → Option R) (K2 : Int → (List Int) → Option R) (rec : Bool → Int → Int → (List Int) → (List Int) → (List Int) → (List Int) → (List Int) → Option R) (h1 : Bool) (h2 : Int) (h3 : Int) (h4 : List Int) (h5 : List Int) (h6 : List Int) (h7 : List Int) (h8 : List Int) : Option R :=
  cond (decide (h3 < ((cnt 3 h5) : Int)))
    (cond ((decide (0 ≤ h3)) && (decide (h3 < ((cnt 3 h5) : Int))))
      (cond ((decide (0 ≤ h3)) && (decide (h3 < ((cnt 3 h5) : Int))))
        (cond (decide ((rd h5 ((h3.toNat * 3) + 2)) < 1))
          (K1 false)
          (cond ((decide (0 ≤ h3)) && (decide (h3 < ((cnt 3 h5) : Int))))
            (cond (decide ((rd h5 ((h3.toNat * 3) + 2)) > (rd h6 2)))
              (K1 false)
              (cond ((decide (0 ≤ h3)) && (decide (h3 < ((cnt 3 h5) : Int))))
                (cond ((rd h5 ((h3.toNat * 3) + 2)) == (rd h6 2))
                  (cond ((decide (0 ≤ h3)) && (decide (h3 < ((cnt 3 h5) : Int))))
                    (cond (decide ((rd h5 ((h3.toNat * 3) + 1)) < (rd h6 1)))
                      (K1 false)
                      (cond ((decide (0 ≤ h3)) && (decide (h3 < ((cnt 3 h5) : Int))))
                        (cond ((rd h5 ((h3.toNat * 3) + 1)) == (rd h6 1))
                          (cond ((decide (0 ≤ h3)) && (decide (h3 < ((cnt 3 h5) : Int))))
                            (cond (decide ((rd h5 (h3.toNat * 3)) < (rd h6 0)))
                              (K1 false)
                              (laws_FnRuns_l0 k
                                (fun y1 =>
                                  K1 y1)
                                (fun y2 y3 y4 y5 y6 y7 y8 y9 =>
                                  rec y2 y3 (IntKind.wrap .i64 (y4 + 1)) y5 y6 y7 y8 y9)
                                h1 (IntKind.wrap .i64 (h2 + (IntKind.wrap .i64 (rd h5 ((h3.toNat * 3) + 2))))) h3 (-1) h4 h5 h6 h7 h8))
                            none)
                          (laws_FnRuns_l0 k
                            (fun y10 =>
                              K1 y10)
                            (fun y11 y12 y13 y14 y15 y16 y17 y18 =>
                              rec y11 y12 (IntKind.wrap .i64 (y13 + 1)) y14 y15 y16 y17 y18)
                            h1 (IntKind.wrap .i64 (h2 + (IntKind.wrap .i64 (rd h5 ((h3.toNat * 3) + 2))))) h3 (-1) h4 h5 h6 h7 h8))
                        none))
                    none)
                  (laws_FnRuns_l0 k
                    (fun y19 =>
                      K1 y19)
                    (fun y20 y21 y22 y23 y24 y25 y26 y27 =>
                      rec y20 y21 (IntKind.wrap .i64 (y22 + 1)) y23 y24 y25 y26 y27)
                    h1 (IntKind.wrap .i64 (h2 + (IntKind.wrap .i64 (rd h5 ((h3.toNat * 3) + 2))))) h3 (-1) h4 h5 h6 h7 h8))
                none))
            none))
        none)
      none)
    (K2 h2 h7)

def laws_FnRuns_l1 {R : Type} (k : Nat) (K1 : Bool → Option R) (K2 : Int → (List Int) → Option R) (h1 : Bool) (h2 : Int) (h3 : Int) (h4 : List Int) (h5 : List Int) (h6 : List Int) (h7 : List Int) (h8 : List Int) : Option R :=
  loopF (fun (rec : Bool × Int × Int × (List Int) × (List Int) × (List Int) × (List Int) × (List Int) → Option R) (p : Bool × Int × Int × (List Int) × (List Int) × (List Int) × (List Int) × (List Int)) => laws_FnRuns_s1 k K1 K2 (fun h1 h2 h3 h4 h5 h6 h7 h8 => rec (h1, h2, h3, h4, h5, h6, h7, h8)) p.1 p.2.1 p.2.2.1 p.2.2.2.1 p.2.2.2.2.1 p.2.2.2.2.2.1 p.2.2.2.2.2.2.1 p.2.2.2.2.2.2.2) k (h1, h2, h3, h4, h5, h6, h7, h8)

def laws_FnRuns (k : Nat) (a1 : List Int) (a2 : List Int) : Option (Bool) :=
  Option.bind (laws_a2Long k a1 a2) fun x1 =>
    cond x1
      (some true)
      (Option.bind (spec_A2Lawn k a1) fun x2 =>
        Option.bind (laws_a2At k a2 0 2) fun x3 =>
          Option.bind (impl_RunsOf k x2 (x3 == 1)) fun x4 =>
            Option.bind (spec_RunsOf k x2 (x3 == 1)) fun x5 =>
              Option.bind (impl_LongestRun k x2 (x3 == 1)) fun x6 =>
                Option.bind (spec_LongestRun k x2 (x3 == 1)) fun x7 =>
                  Option.bind (impl_BestStripes k x2) fun x8 =>
                    Option.bind (spec_BestStripes k x2) fun x9 =>
                      Option.bind (spec_RunsOf k x2 (!(x3 == 1))) fun x10 =>
                        Option.bind (spec_CellsOf k x2 0) fun x11 =>
                          cond (x4.2 != x5.2)
                            (some false)
                            (cond (x4.2 != 0)
                              (some false)
                              (Option.bind (spec_SameRuns k x4.1 x5.1) fun x12 =>
                                cond (!x12)
                                  (some false)
                                  (cond (x6.2 != x7.2)
                                    (some false)
                                    (cond (!(eqL [(rd x6.1 0), (rd x6.1 1), (rd x6.1 2)] [(rd x7.1 0), (rd x7.1 1), (rd x7.1 2)]))
                                      (some false)
                                      (cond (!((x6.2 == 0) == (decide (((cnt 2 x11.1) : Int) > 0))))
                                        (some false)
                                        (cond (x8.2.2 != x9.2.2)
                                          (some false)
                                          (cond (x8.2.2 != 0)
                                            (some false)
                                            (cond (!(x8.1 == x9.1))
                                              (some false)
                                              (cond (x8.2.1 != x9.2.1)
                                                (some false)
                                                (cond (x10.2 != 0)
                                                  (some false)
                                                  (cond (x11.2 != 0)
                                                    (some false)
                                                    (cond (x9.2.1 != (minI ((cnt 3 x5.1) : Int) ((cnt 3 x10.1) : Int)))
                                                      (some false)
                                                      (cond (!(x3 == 1))
                                                        (cond (!(x9.1 == (decide (((cnt 3 x10.1) : Int) ≤ ((cnt 3 x5.1) : Int)))))
                                                          (some false)
                                                          (laws_FnRuns_l1 k
                                                            (fun y13 =>
                                                              some y13)
                                                            (fun y14 y15 =>
                                                              some (y14 == ((cnt 2 y15) : Int)))
                                                            (x3 == 1) 0 0 x2 x5.1 x7.1 x11.1 (List.replicate 100 0)))
                                                        (cond (!(x9.1 == (decide (((cnt 3 x5.1) : Int) ≤ ((cnt 3 x10.1) : Int)))))
                                                          (some false)
                                                          (laws_FnRuns_l1 k
                                                            (fun y16 =>
                                                              some y16)
                                                            (fun y17 y18 =>
                                                              some (y17 == ((cnt 2 y18) : Int)))
                                                            (x3 == 1) 0 0 x2 x5.1 x7.1 x11.1 (List.replicate 100 0)))))))))))))))))


end Go.Proofs.Ytkdpdmfkomnalaa.Tt
