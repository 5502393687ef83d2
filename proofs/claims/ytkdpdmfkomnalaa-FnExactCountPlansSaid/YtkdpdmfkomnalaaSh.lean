/- The functions in plain Lean. -/
import Derived.Test.YtkdpdmfkomnalaaE6
set_option linter.unusedVariables false
set_option linter.unusedSimpArgs false
set_option linter.unusedVariables false
namespace Go.Proofs.Ytkdpdmfkomnalaa.Tt
open Go.Ev Go

def laws_szWeatherS (k : Nat) (a1 : List Int) (a2 : Int) : Option (Int) :=
  cond (decide ((IntKind.wrap .i64 (a2 - ((cnt 2 a1) : Int))) < 0))
    (some (-1))
    (some (IntKind.wrap .i64 (a2 - ((cnt 2 a1) : Int))))

def laws_toWeather (k : Nat) (a1 : List Int) : Option ((List Int)) :=
  some [(rd a1 0), (rd a1 1)]

def laws_toWeatherS_s0 {R : Type} (k : Nat) (K1 : (List Int) → Option R) (rec : (List Int) → Int → (List Int) → Option R) (h1 : List Int) (h2 : Int) (h3 : List Int) : Option R :=
  cond (decide (h2 < ((cnt 2 h1) : Int)))
    (cond ((decide (0 ≤ h2)) && (decide (h2 < ((cnt 2 h1) : Int))))
      (Option.bind (laws_toWeather k [(rd h1 (h2.toNat * 2)), (rd h1 ((h2.toNat * 2) + 1))]) fun x1 =>
        cond ((decide (0 ≤ h2)) && (decide (h2 < ((cnt 2 h3) : Int))))
          (rec h1 (IntKind.wrap .i64 (h2 + 1)) (setWin h3 (h2.toNat * 2) 2 x1))
          none)
      none)
    (K1 h3)

def laws_toWeatherS_l0 {R : Type} (k : Nat) (K1 : (List Int) → Option R) (h1 : List Int) (h2 : Int) (h3 : List Int) : Option R :=
  loopF (fun (rec : (List Int) × Int × (List Int) → Option R) (p : (List Int) × Int × (List Int)) => laws_toWeatherS_s0 k K1 (fun h1 h2 h3 => rec (h1, h2, h3)) p.1 p.2.1 p.2.2) k (h1, h2, h3)

def laws_toWeatherS (k : Nat) (a1 : List Int) : Option ((List Int)) :=
  cond ((decide (0 ≤ ((cnt 2 a1) : Int))) && ((decide (((cnt 2 a1) : Int) ≤ 4294967296)) && (((cnt 2 a1) : Int) == ((cnt 2 a1) : Int))))
    (laws_toWeatherS_l0 k
      (fun y1 =>
        some y1)
      a1 0 (List.replicate (((cnt 2 a1) : Int).toNat * 2) 0))
    none

def spec_l00In (k : Nat) (a1 : Int) (a2 : Int) (a3 : Int) : Option (Bool) :=
  cond (decide (a1 ≥ a2))
    (some (decide (a1 ≤ a3)))
    (some false)

def spec_l03High (k : Nat) (a1 : Int) : Option (Bool) :=
  Option.bind (spec_l00In k a1 0 200) fun x1 =>
    some x1

def spec_l03Mows (k : Nat) (a1 : Int) : Option (Bool) :=
  Option.bind (spec_l00In k a1 0 30) fun x1 =>
    some x1

def spec_l03Day (k : Nat) (a1 : List Int) : Option (Bool) :=
  Option.bind (spec_l00In k (IntKind.wrap .i64 (rd a1 0)) 0 50) fun x1 =>
    cond x1
      (Option.bind (spec_l00In k (IntKind.wrap .i64 (rd a1 1)) 0 40) fun x2 =>
        some x2)
      (some false)

def spec_l03Ok_s0 {R : Type} (k : Nat) (K1 : Bool → Option R) (K2 : (List Int) → Option R) (rec : (List Int) → Int → Option R) (h1 : List Int) (h2 : Int) : Option R :=
  cond (decide (h2 < ((cnt 2 h1) : Int)))
    (cond ((decide (0 ≤ h2)) && (decide (h2 < ((cnt 2 h1) : Int))))
      (Option.bind (spec_l03Day k [(rd h1 (h2.toNat * 2)), (rd h1 ((h2.toNat * 2) + 1))]) fun x1 =>
        cond (!x1)
          (K1 false)
          (rec h1 (IntKind.wrap .i64 (h2 + 1))))
      none)
    (K2 h1)

def spec_l03Ok_l0 {R : Type} (k : Nat) (K1 : Bool → Option R) (K2 : (List Int) → Option R) (h1 : List Int) (h2 : Int) : Option R :=
  loopF (fun (rec : (List Int) × Int → Option R) (p : (List Int) × Int) => spec_l03Ok_s0 k K1 K2 (fun h1 h2 => rec (h1, h2)) p.1 p.2) k (h1, h2)

def spec_l03Ok (k : Nat) (a1 : List Int) : Option (Bool) :=
  spec_l03Ok_l0 k
    (fun y1 =>
      some y1)
    (fun y2 =>
      some (decide (((cnt 2 y2) : Int) ≤ 30)))
    a1 0

def spec_l03Asked (k : Nat) (a1 : List Int) (a2 : Bool) : Option (Int) :=
  Option.bind (spec_l03Ok k a1) fun x1 =>
    cond (!x1)
      (some 1)
      (cond (!a2)
        (some 2)
        (some 0))

def spec_l03Growth (k : Nat) (a1 : List Int) : Option (Int) :=
  some (IntKind.wrap .i64 ((IntKind.wrap .i64 ((IntKind.wrap .i64 (Int.tdiv (IntKind.wrap .i64 (rd a1 0)) 10)) + 1)) * (IntKind.wrap .i64 (Int.tdiv (IntKind.wrap .i64 (rd a1 1)) 10))))

def spec_l00Min (k : Nat) (a1 : Int) (a2 : Int) : Option (Int) :=
  cond (decide (a1 < a2))
    (some a1)
    (some a2)

def spec_CountPlans_s0 {R : Type} (k : Nat) (K1 : Int → Int → Int → (List Int) → Int → (List (List Int)) → Option R) (rec : Int → Int → Int → (List Int) → Int → Int → (List (List Int)) → Option R) (h1 : Int) (h2 : Int) (h3 : Int) (h4 : List Int) (h5 : Int) (h6 : Int) (h7 : List (List Int)) : Option R :=
  cond (decide (h6 ≤ h5))
    (cond ((decide (0 ≤ h6)) && (decide (h6 < (h7.length : Int))))
      (rec h1 h2 h3 h4 h5 (IntKind.wrap .i64 (h6 + 1)) (List.set h7 (h6.toNat * 1) (List.replicate 201 0)))
      none)
    (K1 h1 h2 h3 h4 h5 h7)

def spec_CountPlans_l0 {R : Type} (k : Nat) (K1 : Int → Int → Int → (List Int) → Int → (List (List Int)) → Option R) (h1 : Int) (h2 : Int) (h3 : Int) (h4 : List Int) (h5 : Int) (h6 : Int) (h7 : List (List Int)) : Option R :=
  loopF (fun (rec : Int × Int × Int × (List Int) × Int × Int × (List (List Int)) → Option R) (p : Int × Int × Int × (List Int) × Int × Int × (List (List Int))) => spec_CountPlans_s0 k K1 (fun h1 h2 h3 h4 h5 h6 h7 => rec (h1, h2, h3, h4, h5, h6, h7)) p.1 p.2.1 p.2.2.1 p.2.2.2.1 p.2.2.2.2.1 p.2.2.2.2.2.1 p.2.2.2.2.2.2) k (h1, h2, h3, h4, h5, h6, h7)

def spec_CountPlans_s1 {R : Type} (k : Nat) (K1 : Int → Int → (List Int) → Int → Int → Int → (List (List Int)) → (List (List Int)) → Option R) (rec : Int → Int → (List Int) → Int → Int → Int → Int → (List (List Int)) → (List (List Int)) → Option R) (h1 : Int) (h2 : Int) (h3 : List Int) (h4 : Int) (h5 : Int) (h6 : Int) (h7 : Int) (h8 : List (List Int)) (h9 : List (List Int)) : Option R :=
  cond (decide (h7 ≤ h4))
    (cond ((decide (0 ≤ h7)) && (decide (h7 < (h9.length : Int))))
      (rec h1 h2 h3 h4 h5 h6 (IntKind.wrap .i64 (h7 + 1)) h8 (List.set h9 (h7.toNat * 1) (List.replicate 201 0)))
      none)
    (K1 h1 h2 h3 h4 h5 h6 h8 h9)

def spec_CountPlans_l1 {R : Type} (k : Nat) (K1 : Int → Int → (List Int) → Int → Int → Int → (List (List Int)) → (List (List Int)) → Option R) (h1 : Int) (h2 : Int) (h3 : List Int) (h4 : Int) (h5 : Int) (h6 : Int) (h7 : Int) (h8 : List (List Int)) (h9 : List (List Int)) : Option R :=
  loopF (fun (rec : Int × Int × (List Int) × Int × Int × Int × Int × (List (List Int)) × (List (List Int)) → Option R) (p : Int × Int × (List Int) × Int × Int × Int × Int × (List (List Int)) × (List (List Int))) => spec_CountPlans_s1 k K1 (fun h1 h2 h3 h4 h5 h6 h7 h8 h9 => rec (h1, h2, h3, h4, h5, h6, h7, h8, h9)) p.1 p.2.1 p.2.2.1 p.2.2.2.1 p.2.2.2.2.1 p.2.2.2.2.2.1 p.2.2.2.2.2.2.1 p.2.2.2.2.2.2.2.1 p.2.2.2.2.2.2.2.2) k (h1, h2, h3, h4, h5, h6, h7, h8, h9)

def spec_CountPlans_s2 {R : Type} (k : Nat) (K1 : Int → Int → (List Int) → Int → Int → Int → Int → (List (List Int)) → (List (List Int)) → Option R) (rec : Int → Int → (List Int) → Int → Int → Int → Int → Int → (List (List Int)) → (List (List Int)) → Option R) (h1 : Int) (h2 : Int) (h3 : List Int) (h4 : Int) (h5 : Int) (h6 : Int) (h7 : Int) (h8 : Int) (h9 : List (List Int)) (h10 : List (List Int)) : Option R :=
  cond (decide (h8 ≤ 200))
    (cond ((decide (0 ≤ h7)) && (decide (h7 < (h9.length : Int))))
      (cond ((decide (0 ≤ h8)) && (decide (h8 < (((cnt 1 (rdr h9 (h7.toNat * 1))) : Nat) : Int))))
        (cond ((rd (rdr h9 (h7.toNat * 1)) (h8.toNat * 1)) == 0)
          (rec h1 h2 h3 h4 h5 h6 h7 (IntKind.wrap .i64 (h8 + 1)) h9 h10)
          (cond (decide ((IntKind.wrap .i64 (h8 + h6)) ≤ h2))
            (cond ((decide (0 ≤ h7)) && (decide (h7 < (h10.length : Int))))
              (cond ((decide (0 ≤ (IntKind.wrap .i64 (h8 + h6)))) && (decide ((IntKind.wrap .i64 (h8 + h6)) < (((cnt 1 (rdr h10 (h7.toNat * 1))) : Nat) : Int))))
                (cond ((decide (0 ≤ (IntKind.wrap .i64 (h8 + h6)))) && (decide ((IntKind.wrap .i64 (h8 + h6)) < (((cnt 1 (rdr h10 (h7.toNat * 1))) : Nat) : Int))))
                  (Option.bind (spec_l00Min k h8 h1) fun x1 =>
                    cond (decide (h7 < h4))
                      (cond (decide ((IntKind.wrap .i64 (x1 + h6)) ≤ h2))
                        (cond ((decide (0 ≤ (IntKind.wrap .i64 (h7 + 1)))) && (decide ((IntKind.wrap .i64 (h7 + 1)) < (((List.set h10 (h7.toNat * 1) (List.set (rdr h10 (h7.toNat * 1)) ((IntKind.wrap .i64 (h8 + h6)).toNat * 1) (IntKind.wrap .i64 ((rd (rdr h10 (h7.toNat * 1)) ((IntKind.wrap .i64 (h8 + h6)).toNat * 1)) + (rd (rdr h9 (h7.toNat * 1)) (h8.toNat * 1)))))).length : Nat) : Int))))
                          (cond ((decide (0 ≤ (IntKind.wrap .i64 (x1 + h6)))) && (decide ((IntKind.wrap .i64 (x1 + h6)) < (((cnt 1 (rdr (List.set h10 (h7.toNat * 1) (List.set (rdr h10 (h7.toNat * 1)) ((IntKind.wrap .i64 (h8 + h6)).toNat * 1) (IntKind.wrap .i64 ((rd (rdr h10 (h7.toNat * 1)) ((IntKind.wrap .i64 (h8 + h6)).toNat * 1)) + (rd (rdr h9 (h7.toNat * 1)) (h8.toNat * 1)))))) ((IntKind.wrap .i64 (h7 + 1)).toNat * 1))) : Nat) : Int))))
                            (cond ((decide (0 ≤ (IntKind.wrap .i64 (x1 + h6)))) && (decide ((IntKind.wrap .i64 (x1 + h6)) < (((cnt 1 (rdr (List.set h10 (h7.toNat * 1) (List.set (rdr h10 (h7.toNat * 1)) ((IntKind.wrap .i64 (h8 + h6)).toNat * 1) (IntKind.wrap .i64 ((rd (rdr h10 (h7.toNat * 1)) ((IntKind.wrap .i64 (h8 + h6)).toNat * 1)) + (rd (rdr h9 (h7.toNat * 1)) (h8.toNat * 1)))))) ((IntKind.wrap .i64 (h7 + 1)).toNat * 1))) : Nat) : Int))))
                              (rec h1 h2 h3 h4 h5 h6 h7 (IntKind.wrap .i64 (h8 + 1)) h9 (List.set (List.set h10 (h7.toNat * 1) (List.set (rdr h10 (h7.toNat * 1)) ((IntKind.wrap .i64 (h8 + h6)).toNat * 1) (IntKind.wrap .i64 ((rd (rdr h10 (h7.toNat * 1)) ((IntKind.wrap .i64 (h8 + h6)).toNat * 1)) + (rd (rdr h9 (h7.toNat * 1)) (h8.toNat * 1)))))) ((IntKind.wrap .i64 (h7 + 1)).toNat * 1) (List.set (rdr (List.set h10 (h7.toNat * 1) (List.set (rdr h10 (h7.toNat * 1)) ((IntKind.wrap .i64 (h8 + h6)).toNat * 1) (IntKind.wrap .i64 ((rd (rdr h10 (h7.toNat * 1)) ((IntKind.wrap .i64 (h8 + h6)).toNat * 1)) + (rd (rdr h9 (h7.toNat * 1)) (h8.toNat * 1)))))) ((IntKind.wrap .i64 (h7 + 1)).toNat * 1)) ((IntKind.wrap .i64 (x1 + h6)).toNat * 1) (IntKind.wrap .i64 ((rd (rdr (List.set h10 (h7.toNat * 1) (List.set (rdr h10 (h7.toNat * 1)) ((IntKind.wrap .i64 (h8 + h6)).toNat * 1) (IntKind.wrap .i64 ((rd (rdr h10 (h7.toNat * 1)) ((IntKind.wrap .i64 (h8 + h6)).toNat * 1)) + (rd (rdr h9 (h7.toNat * 1)) (h8.toNat * 1)))))) ((IntKind.wrap .i64 (h7 + 1)).toNat * 1)) ((IntKind.wrap .i64 (x1 + h6)).toNat * 1)) + (rd (rdr h9 (h7.toNat * 1)) (h8.toNat * 1)))))))
                              none)
                            none)
                          none)
                        (rec h1 h2 h3 h4 h5 h6 h7 (IntKind.wrap .i64 (h8 + 1)) h9 (List.set h10 (h7.toNat * 1) (List.set (rdr h10 (h7.toNat * 1)) ((IntKind.wrap .i64 (h8 + h6)).toNat * 1) (IntKind.wrap .i64 ((rd (rdr h10 (h7.toNat * 1)) ((IntKind.wrap .i64 (h8 + h6)).toNat * 1)) + (rd (rdr h9 (h7.toNat * 1)) (h8.toNat * 1))))))))
                      (rec h1 h2 h3 h4 h5 h6 h7 (IntKind.wrap .i64 (h8 + 1)) h9 (List.set h10 (h7.toNat * 1) (List.set (rdr h10 (h7.toNat * 1)) ((IntKind.wrap .i64 (h8 + h6)).toNat * 1) (IntKind.wrap .i64 ((rd (rdr h10 (h7.toNat * 1)) ((IntKind.wrap .i64 (h8 + h6)).toNat * 1)) + (rd (rdr h9 (h7.toNat * 1)) (h8.toNat * 1))))))))
                  none)
                none)
              none)
            (Option.bind (spec_l00Min k h8 h1) fun x2 =>
              cond (decide (h7 < h4))
                (cond (decide ((IntKind.wrap .i64 (x2 + h6)) ≤ h2))
                  (cond ((decide (0 ≤ (IntKind.wrap .i64 (h7 + 1)))) && (decide ((IntKind.wrap .i64 (h7 + 1)) < (h10.length : Int))))
                    (cond ((decide (0 ≤ (IntKind.wrap .i64 (x2 + h6)))) && (decide ((IntKind.wrap .i64 (x2 + h6)) < (((cnt 1 (rdr h10 ((IntKind.wrap .i64 (h7 + 1)).toNat * 1))) : Nat) : Int))))
                      (cond ((decide (0 ≤ (IntKind.wrap .i64 (x2 + h6)))) && (decide ((IntKind.wrap .i64 (x2 + h6)) < (((cnt 1 (rdr h10 ((IntKind.wrap .i64 (h7 + 1)).toNat * 1))) : Nat) : Int))))
                        (rec h1 h2 h3 h4 h5 h6 h7 (IntKind.wrap .i64 (h8 + 1)) h9 (List.set h10 ((IntKind.wrap .i64 (h7 + 1)).toNat * 1) (List.set (rdr h10 ((IntKind.wrap .i64 (h7 + 1)).toNat * 1)) ((IntKind.wrap .i64 (x2 + h6)).toNat * 1) (IntKind.wrap .i64 ((rd (rdr h10 ((IntKind.wrap .i64 (h7 + 1)).toNat * 1)) ((IntKind.wrap .i64 (x2 + h6)).toNat * 1)) + (rd (rdr h9 (h7.toNat * 1)) (h8.toNat * 1)))))))
                        none)
                      none)
                    none)
                  (rec h1 h2 h3 h4 h5 h6 h7 (IntKind.wrap .i64 (h8 + 1)) h9 h10))
                (rec h1 h2 h3 h4 h5 h6 h7 (IntKind.wrap .i64 (h8 + 1)) h9 h10))))
        none)
      none)
    (K1 h1 h2 h3 h4 h5 h6 h7 h9 h10)

def spec_CountPlans_l2 {R : Type} (k : Nat) (K1 : Int → Int → (List Int) → Int → Int → Int → Int → (List (List Int)) → (List (List Int)) → Option R) (h1 : Int) (h2 : Int) (h3 : List Int) (h4 : Int) (h5 : Int) (h6 : Int) (h7 : Int) (h8 : Int) (h9 : List (List Int)) (h10 : List (List Int)) : Option R :=
  loopF (fun (rec : Int × Int × (List Int) × Int × Int × Int × Int × Int × (List (List Int)) × (List (List Int)) → Option R) (p : Int × Int × (List Int) × Int × Int × Int × Int × Int × (List (List Int)) × (List (List Int))) => spec_CountPlans_s2 k K1 (fun h1 h2 h3 h4 h5 h6 h7 h8 h9 h10 => rec (h1, h2, h3, h4, h5, h6, h7, h8, h9, h10)) p.1 p.2.1 p.2.2.1 p.2.2.2.1 p.2.2.2.2.1 p.2.2.2.2.2.1 p.2.2.2.2.2.2.1 p.2.2.2.2.2.2.2.1 p.2.2.2.2.2.2.2.2.1 p.2.2.2.2.2.2.2.2.2) k (h1, h2, h3, h4, h5, h6, h7, h8, h9, h10)

def spec_CountPlans_s3 {R : Type} (k : Nat) (K1 : Int → Int → (List Int) → Int → Int → (List (List Int)) → (List (List Int)) → Option R) (rec : Int → Int → (List Int) → Int → Int → Int → Int → (List (List Int)) → (List (List Int)) → Option R) (h1 : Int) (h2 : Int) (h3 : List Int) (h4 : Int) (h5 : Int) (h6 : Int) (h7 : Int) (h8 : List (List Int)) (h9 : List (List Int)) : Option R :=
  cond (decide (h7 ≤ h4))
    (spec_CountPlans_l2 k
      (fun y1 y2 y3 y4 y5 y6 y7 y8 y9 =>
        rec y1 y2 y3 y4 y5 y6 (IntKind.wrap .i64 (y7 + 1)) y8 y9)
      h1 h2 h3 h4 h5 h6 h7 0 h8 h9)
    (K1 h1 h2 h3 h4 h5 h8 h9)

def spec_CountPlans_l3 {R : Type} (k : Nat) (K1 : Int → Int → (List Int) → Int → Int → (List (List Int)) → (List (List Int)) → Option R) (h1 : Int) (h2 : Int) (h3 : List Int) (h4 : Int) (h5 : Int) (h6 : Int) (h7 : Int) (h8 : List (List Int)) (h9 : List (List Int)) : Option R :=
  loopF (fun (rec : Int × Int × (List Int) × Int × Int × Int × Int × (List (List Int)) × (List (List Int)) → Option R) (p : Int × Int × (List Int) × Int × Int × Int × Int × (List (List Int)) × (List (List Int))) => spec_CountPlans_s3 k K1 (fun h1 h2 h3 h4 h5 h6 h7 h8 h9 => rec (h1, h2, h3, h4, h5, h6, h7, h8, h9)) p.1 p.2.1 p.2.2.1 p.2.2.2.1 p.2.2.2.2.1 p.2.2.2.2.2.1 p.2.2.2.2.2.2.1 p.2.2.2.2.2.2.2.1 p.2.2.2.2.2.2.2.2) k (h1, h2, h3, h4, h5, h6, h7, h8, h9)

def spec_CountPlans_s4 {R : Type} (k : Nat) (K1 : Int → (List (List Int)) → Option R) (rec : Int → Int → (List Int) → Int → Int → (List (List Int)) → Option R) (h1 : Int) (h2 : Int) (h3 : List Int) (h4 : Int) (h5 : Int) (h6 : List (List Int)) : Option R :=
  cond (decide (h5 < ((cnt 2 h3) : Int)))
    (cond ((decide (0 ≤ h5)) && (decide (h5 < ((cnt 2 h3) : Int))))
      (Option.bind (spec_l03Growth k [(rd h3 (h5.toNat * 2)), (rd h3 ((h5.toNat * 2) + 1))]) fun x1 =>
        cond ((decide (0 ≤ (IntKind.wrap .i64 (h4 + 1)))) && ((decide ((IntKind.wrap .i64 (h4 + 1)) ≤ 4294967296)) && ((IntKind.wrap .i64 (h4 + 1)) == (IntKind.wrap .i64 (h4 + 1)))))
          (spec_CountPlans_l1 k
            (fun y2 y3 y4 y5 y6 y7 y8 y9 =>
              spec_CountPlans_l3 k
                (fun y10 y11 y12 y13 y14 y15 y16 =>
                  rec y10 y11 y12 y13 (IntKind.wrap .i64 (y14 + 1)) y16)
                y2 y3 y4 y5 y6 y7 0 y8 y9)
            h1 h2 h3 h4 h5 x1 0 h6 (List.replicate (IntKind.wrap .i64 (h4 + 1)).toNat []))
          none)
      none)
    (K1 h4 h6)

def spec_CountPlans_l4 {R : Type} (k : Nat) (K1 : Int → (List (List Int)) → Option R) (h1 : Int) (h2 : Int) (h3 : List Int) (h4 : Int) (h5 : Int) (h6 : List (List Int)) : Option R :=
  loopF (fun (rec : Int × Int × (List Int) × Int × Int × (List (List Int)) → Option R) (p : Int × Int × (List Int) × Int × Int × (List (List Int))) => spec_CountPlans_s4 k K1 (fun h1 h2 h3 h4 h5 h6 => rec (h1, h2, h3, h4, h5, h6)) p.1 p.2.1 p.2.2.1 p.2.2.2.1 p.2.2.2.2.1 p.2.2.2.2.2) k (h1, h2, h3, h4, h5, h6)

def spec_CountPlans_s5 {R : Type} (k : Nat) (K1 : Int → Option R) (rec : Int → Int → Int → (List (List Int)) → Option R) (h1 : Int) (h2 : Int) (h3 : Int) (h4 : List (List Int)) : Option R :=
  cond (decide (h3 ≤ 200))
    (cond ((decide (0 ≤ h1)) && (decide (h1 < (h4.length : Int))))
      (cond ((decide (0 ≤ h3)) && (decide (h3 < (((cnt 1 (rdr h4 (h1.toNat * 1))) : Nat) : Int))))
        (rec h1 (IntKind.wrap .i64 (h2 + (rd (rdr h4 (h1.toNat * 1)) (h3.toNat * 1)))) (IntKind.wrap .i64 (h3 + 1)) h4)
        none)
      none)
    (K1 h2)

def spec_CountPlans_l5 {R : Type} (k : Nat) (K1 : Int → Option R) (h1 : Int) (h2 : Int) (h3 : Int) (h4 : List (List Int)) : Option R :=
  loopF (fun (rec : Int × Int × Int × (List (List Int)) → Option R) (p : Int × Int × Int × (List (List Int))) => spec_CountPlans_s5 k K1 (fun h1 h2 h3 h4 => rec (h1, h2, h3, h4)) p.1 p.2.1 p.2.2.1 p.2.2.2) k (h1, h2, h3, h4)

def spec_CountPlans (k : Nat) (a1 : Int) (a2 : Int) (a3 : Int) (a4 : List Int) (a5 : Int) : Option (Int × Int) :=
  Option.bind (spec_l03High k a1) fun x1 =>
    cond x1
      (Option.bind (spec_l03High k a2) fun x2 =>
        cond x2
          (Option.bind (spec_l03High k a3) fun x3 =>
            cond x3
              (Option.bind (spec_l03Mows k a5) fun x4 =>
                Option.bind (spec_l03Asked k a4 x4) fun x5 =>
                  cond (x5 != 0)
                    (some (0, x5))
                    (cond ((decide (0 ≤ (IntKind.wrap .i64 (a5 + 1)))) && ((decide ((IntKind.wrap .i64 (a5 + 1)) ≤ 4294967296)) && ((IntKind.wrap .i64 (a5 + 1)) == (IntKind.wrap .i64 (a5 + 1)))))
                      (spec_CountPlans_l0 k
                        (fun y6 y7 y8 y9 y10 y11 =>
                          cond (decide (0 < (y11.length : Int)))
                            (cond ((decide (0 ≤ y6)) && (decide (y6 < ((cnt 1 (rdr y11 0)) : Int))))
                              (spec_CountPlans_l4 k
                                (fun y12 y13 =>
                                  spec_CountPlans_l5 k
                                    (fun y14 =>
                                      some (y14, 0))
                                    y12 0 0 y13)
                                y7 y8 y9 y10 0 (List.set y11 0 (List.set (rdr y11 0) (y6.toNat * 1) 1)))
                              none)
                            none)
                        a1 a2 a3 a4 a5 0 (List.replicate (IntKind.wrap .i64 (a5 + 1)).toNat []))
                      none))
              (Option.bind (spec_l03Asked k a4 false) fun x15 =>
                cond (x15 != 0)
                  (some (0, x15))
                  (cond ((decide (0 ≤ (IntKind.wrap .i64 (a5 + 1)))) && ((decide ((IntKind.wrap .i64 (a5 + 1)) ≤ 4294967296)) && ((IntKind.wrap .i64 (a5 + 1)) == (IntKind.wrap .i64 (a5 + 1)))))
                    (spec_CountPlans_l0 k
                      (fun y16 y17 y18 y19 y20 y21 =>
                        cond (decide (0 < (y21.length : Int)))
                          (cond ((decide (0 ≤ y16)) && (decide (y16 < ((cnt 1 (rdr y21 0)) : Int))))
                            (spec_CountPlans_l4 k
                              (fun y22 y23 =>
                                spec_CountPlans_l5 k
                                  (fun y24 =>
                                    some (y24, 0))
                                  y22 0 0 y23)
                              y17 y18 y19 y20 0 (List.set y21 0 (List.set (rdr y21 0) (y16.toNat * 1) 1)))
                            none)
                          none)
                      a1 a2 a3 a4 a5 0 (List.replicate (IntKind.wrap .i64 (a5 + 1)).toNat []))
                    none)))
          (Option.bind (spec_l03Asked k a4 false) fun x25 =>
            cond (x25 != 0)
              (some (0, x25))
              (cond ((decide (0 ≤ (IntKind.wrap .i64 (a5 + 1)))) && ((decide ((IntKind.wrap .i64 (a5 + 1)) ≤ 4294967296)) && ((IntKind.wrap .i64 (a5 + 1)) == (IntKind.wrap .i64 (a5 + 1)))))
                (spec_CountPlans_l0 k
                  (fun y26 y27 y28 y29 y30 y31 =>
                    cond (decide (0 < (y31.length : Int)))
                      (cond ((decide (0 ≤ y26)) && (decide (y26 < ((cnt 1 (rdr y31 0)) : Int))))
                        (spec_CountPlans_l4 k
                          (fun y32 y33 =>
                            spec_CountPlans_l5 k
                              (fun y34 =>
                                some (y34, 0))
                              y32 0 0 y33)
                          y27 y28 y29 y30 0 (List.set y31 0 (List.set (rdr y31 0) (y26.toNat * 1) 1)))
                        none)
                      none)
                  a1 a2 a3 a4 a5 0 (List.replicate (IntKind.wrap .i64 (a5 + 1)).toNat []))
                none)))
      (Option.bind (spec_l03Asked k a4 false) fun x35 =>
        cond (x35 != 0)
          (some (0, x35))
          (cond ((decide (0 ≤ (IntKind.wrap .i64 (a5 + 1)))) && ((decide ((IntKind.wrap .i64 (a5 + 1)) ≤ 4294967296)) && ((IntKind.wrap .i64 (a5 + 1)) == (IntKind.wrap .i64 (a5 + 1)))))
            (spec_CountPlans_l0 k
              (fun y36 y37 y38 y39 y40 y41 =>
                cond (decide (0 < (y41.length : Int)))
                  (cond ((decide (0 ≤ y36)) && (decide (y36 < ((cnt 1 (rdr y41 0)) : Int))))
                    (spec_CountPlans_l4 k
                      (fun y42 y43 =>
                        spec_CountPlans_l5 k
                          (fun y44 =>
                            some (y44, 0))
                          y42 0 0 y43)
                      y37 y38 y39 y40 0 (List.set y41 0 (List.set (rdr y41 0) (y36.toNat * 1) 1)))
                    none)
                  none)
              a1 a2 a3 a4 a5 0 (List.replicate (IntKind.wrap .i64 (a5 + 1)).toNat []))
            none))

def impl_within (k : Nat) (a1 : Int) (a2 : Int) (a3 : Int) : Option (Bool) :=
  cond (decide (a2 ≤ a1))
    (some (decide (a1 ≤ a3)))
    (some false)

def impl_isDay (k : Nat) (a1 : List Int) : Option (Bool) :=
  Option.bind (impl_within k (IntKind.wrap .i64 (rd a1 0)) 0 50) fun x1 =>
    cond x1
      (Option.bind (impl_within k (IntKind.wrap .i64 (rd a1 1)) 0 40) fun x2 =>
        some x2)
      (some false)

def impl_ValidWeather_1 (k : Nat) (a1 : List Int) : Option (Bool) :=
  Option.bind (impl_isDay k [(rd a1 0), (rd a1 1)]) fun x1 =>
    some (!x1)

def slices_IndexFunc_impl_Weather_s0 {R : Type} (k : Nat) (K1 : Int → Option R) (K2 : Option R) (rec : (List Int) → (List Int → Option Bool) → Int → Int → Option R) (h1 : List Int) (h2 : List Int → Option Bool) (h3 : Int) (h4 : Int) : Option R :=
  cond (decide (h4 < h3))
    (cond ((decide (0 ≤ h4)) && (decide (h4 < ((cnt 2 h1) : Int))))
      (Option.bind (h2 [(rd h1 (h4.toNat * 2)), (rd h1 ((h4.toNat * 2) + 1))]) fun x1 =>
        cond x1
          (K1 h4)
          (rec h1 h2 h3 (IntKind.wrap .i64 (h4 + 1))))
      none)
    (K2)

def slices_IndexFunc_impl_Weather_l0 {R : Type} (k : Nat) (K1 : Int → Option R) (K2 : Option R) (h1 : List Int) (h2 : List Int → Option Bool) (h3 : Int) (h4 : Int) : Option R :=
  loopF (fun (rec : (List Int) × (List Int → Option Bool) × Int × Int → Option R) (p : (List Int) × (List Int → Option Bool) × Int × Int) => slices_IndexFunc_impl_Weather_s0 k K1 K2 (fun h1 h2 h3 h4 => rec (h1, h2, h3, h4)) p.1 p.2.1 p.2.2.1 p.2.2.2) k (h1, h2, h3, h4)

def slices_IndexFunc_impl_Weather (k : Nat) (a1 : List Int) (a2 : List Int → Option Bool) : Option (Int) :=
  slices_IndexFunc_impl_Weather_l0 k
    (fun y1 =>
      some y1)
    (some (-1))
    a1 a2 ((cnt 2 a1) : Int) 0

def slices_ContainsFunc_impl_Weather (k : Nat) (a1 : List Int) (a2 : List Int → Option Bool) : Option (Bool) :=
  Option.bind (slices_IndexFunc_impl_Weather k a1 a2) fun x1 =>
    some (decide (x1 ≥ 0))

def impl_ValidWeather (k : Nat) (a1 : List Int) : Option (Bool) :=
  cond (decide (((cnt 2 a1) : Int) ≤ 30))
    (Option.bind (slices_ContainsFunc_impl_Weather k a1 (fun z1 => (impl_ValidWeather_1 k [(rd z1 0), (rd z1 1)]).bind fun b => some b)) fun x2 =>
      some (!x2))
    (some false)

def impl_lengthsCode_1 (k : Nat) (a1 : Int) : Option (Bool) :=
  Option.bind (impl_within k a1 0 200) fun x1 =>
    some (!x1)

def slices_IndexFunc_int64_s0 {R : Type} (k : Nat) (K1 : Int → Option R) (K2 : Option R) (rec : (List Int) → (List Int → Option Bool) → Int → Int → Option R) (h1 : List Int) (h2 : List Int → Option Bool) (h3 : Int) (h4 : Int) : Option R :=
  cond (decide (h4 < h3))
    (cond ((decide (0 ≤ h4)) && (decide (h4 < ((cnt 1 h1) : Int))))
      (Option.bind (h2 [(rd h1 (h4.toNat * 1))]) fun x1 =>
        cond x1
          (K1 h4)
          (rec h1 h2 h3 (IntKind.wrap .i64 (h4 + 1))))
      none)
    (K2)

def slices_IndexFunc_int64_l0 {R : Type} (k : Nat) (K1 : Int → Option R) (K2 : Option R) (h1 : List Int) (h2 : List Int → Option Bool) (h3 : Int) (h4 : Int) : Option R :=
  loopF (fun (rec : (List Int) × (List Int → Option Bool) × Int × Int → Option R) (p : (List Int) × (List Int → Option Bool) × Int × Int) => slices_IndexFunc_int64_s0 k K1 K2 (fun h1 h2 h3 h4 => rec (h1, h2, h3, h4)) p.1 p.2.1 p.2.2.1 p.2.2.2) k (h1, h2, h3, h4)

def slices_IndexFunc_int64 (k : Nat) (a1 : List Int) (a2 : List Int → Option Bool) : Option (Int) :=
  slices_IndexFunc_int64_l0 k
    (fun y1 =>
      some y1)
    (some (-1))
    a1 a2 ((cnt 1 a1) : Int) 0

def slices_ContainsFunc_int64 (k : Nat) (a1 : List Int) (a2 : List Int → Option Bool) : Option (Bool) :=
  Option.bind (slices_IndexFunc_int64 k a1 a2) fun x1 =>
    some (decide (x1 ≥ 0))

def impl_lengthsCode (k : Nat) (a1 : List Int) (a2 : List Int) : Option (Int) :=
  Option.bind (impl_ValidWeather k a1) fun x1 =>
    cond (!x1)
      (some 1)
      (Option.bind (slices_ContainsFunc_int64 k a2 (fun z2 => (impl_lengthsCode_1 k (rd z2 0)).bind fun b => some b)) fun x3 =>
        cond x3
          (some 2)
          (some 0))

def impl_plannerOf (k : Nat) (a1 : Int) (a2 : Int) (a3 : List Int) : Option (Int × Int × (List Int) × (List (List Int × Int)) × (List (List Int × Int))) :=
  some (a1, a2, a3, [], [])

def impl_Weather_grows (k : Nat) (a1 : List Int) : Option (Int) :=
  some (IntKind.wrap .i64 ((IntKind.wrap .i64 ((IntKind.wrap .i64 (Int.tdiv (IntKind.wrap .i64 (rd a1 0)) 10)) + 1)) * (IntKind.wrap .i64 (Int.tdiv (IntKind.wrap .i64 (rd a1 1)) 10))))

def impl_planner_count (k0 : Nat) (a1 : Int) (a2 : Int) (a3 : List Int) (a4 : List (List Int × Int)) (a5 : List (List Int × Int)) (a6 : Int) (a7 : Int) (a8 : Int) : Option ((Int) × (Int × Int × (List Int) × (List (List Int × Int)) × (List (List Int × Int)))) :=
  match k0 with
  | 0 => none
  | k + 1 =>
    cond (a6 == ((cnt 2 a3) : Int))
      (cond (a8 == 0)
        (some (1, (a1, a2, a3, a4, a5)))
        (some (0, (a1, a2, a3, a4, a5))))
      (cond (hasK a5 [a6, a7, a8])
        (some ((lookK (0 : Int) a5 [a6, a7, a8]), (a1, a2, a3, a4, a5)))
        (cond ((decide (0 ≤ a6)) && (decide (a6 < ((cnt 2 a3) : Int))))
          (Option.bind (impl_Weather_grows k [(rd a3 (a6.toNat * 2)), (rd a3 ((a6.toNat * 2) + 1))]) fun x1 =>
            cond (decide ((IntKind.wrap .i64 (a7 + x1)) ≤ a2))
              (Option.bind (impl_planner_count k a1 a2 a3 a4 a5 (IntKind.wrap .i64 (a6 + 1)) (IntKind.wrap .i64 (a7 + x1)) a8) fun x2 =>
                cond (decide ((IntKind.wrap .i64 ((minI a7 x2.2.1) + x1)) ≤ x2.2.2.1))
                  (cond (decide (a8 > 0))
                    (Option.bind (impl_planner_count k x2.2.1 x2.2.2.1 x2.2.2.2.1 x2.2.2.2.2.1 x2.2.2.2.2.2 (IntKind.wrap .i64 (a6 + 1)) (IntKind.wrap .i64 ((minI a7 x2.2.1) + x1)) (IntKind.wrap .i64 (a8 - 1))) fun x3 =>
                      some ((IntKind.wrap .i64 ((IntKind.wrap .i64 (0 + x2.1)) + x3.1)), (x3.2.1, x3.2.2.1, x3.2.2.2.1, x3.2.2.2.2.1, (putK x3.2.2.2.2.2 [a6, a7, a8] (IntKind.wrap .i64 ((IntKind.wrap .i64 (0 + x2.1)) + x3.1))))))
                    (some ((IntKind.wrap .i64 (0 + x2.1)), (x2.2.1, x2.2.2.1, x2.2.2.2.1, x2.2.2.2.2.1, (putK x2.2.2.2.2.2 [a6, a7, a8] (IntKind.wrap .i64 (0 + x2.1)))))))
                  (some ((IntKind.wrap .i64 (0 + x2.1)), (x2.2.1, x2.2.2.1, x2.2.2.2.1, x2.2.2.2.2.1, (putK x2.2.2.2.2.2 [a6, a7, a8] (IntKind.wrap .i64 (0 + x2.1)))))))
              (cond (decide ((IntKind.wrap .i64 ((minI a7 a1) + x1)) ≤ a2))
                (cond (decide (a8 > 0))
                  (Option.bind (impl_planner_count k a1 a2 a3 a4 a5 (IntKind.wrap .i64 (a6 + 1)) (IntKind.wrap .i64 ((minI a7 a1) + x1)) (IntKind.wrap .i64 (a8 - 1))) fun x4 =>
                    some ((IntKind.wrap .i64 (0 + x4.1)), (x4.2.1, x4.2.2.1, x4.2.2.2.1, x4.2.2.2.2.1, (putK x4.2.2.2.2.2 [a6, a7, a8] (IntKind.wrap .i64 (0 + x4.1))))))
                  (some (0, (a1, a2, a3, a4, (putK a5 [a6, a7, a8] 0)))))
                (some (0, (a1, a2, a3, a4, (putK a5 [a6, a7, a8] 0))))))
          none))

def impl_CountPlans (k : Nat) (a1 : Int) (a2 : Int) (a3 : Int) (a4 : List Int) (a5 : Int) : Option (Int × Int) :=
  Option.bind (impl_lengthsCode k a4 [a1, a2, a3]) fun x1 =>
    cond (x1 == 0)
      (Option.bind (impl_within k a5 0 30) fun x2 =>
        cond (!x2)
          (some (0, 2))
          (cond (x1 != 0)
            (some (0, x1))
            (Option.bind (impl_plannerOf k a2 a3 a4) fun x3 =>
              Option.bind (impl_planner_count k x3.1 x3.2.1 x3.2.2.1 x3.2.2.2.1 x3.2.2.2.2 0 a1 a5) fun x4 =>
                some (x4.1, 0))))
      (cond (x1 != 0)
        (some (0, x1))
        (Option.bind (impl_plannerOf k a2 a3 a4) fun x5 =>
          Option.bind (impl_planner_count k x5.1 x5.2.1 x5.2.2.1 x5.2.2.2.1 x5.2.2.2.2 0 a1 a5) fun x6 =>
            some (x6.1, 0)))

def laws_eqWeather (k : Nat) (a1 : List Int) (a2 : List Int) : Option (Bool) :=
  cond ((rd a1 0) != (rd a2 0))
    (some false)
    (cond ((rd a1 1) != (rd a2 1))
      (some false)
      (some true))

def laws_eqWeatherS_s0 {R : Type} (k : Nat) (K1 : Bool → Option R) (K2 : Option R) (rec : (List Int) → (List Int) → Int → Option R) (h1 : List Int) (h2 : List Int) (h3 : Int) : Option R :=
  cond (decide (h3 < ((cnt 2 h1) : Int)))
    (cond ((decide (0 ≤ h3)) && (decide (h3 < ((cnt 2 h1) : Int))))
      (cond ((decide (0 ≤ h3)) && (decide (h3 < ((cnt 2 h2) : Int))))
        (Option.bind (laws_eqWeather k [(rd h1 (h3.toNat * 2)), (rd h1 ((h3.toNat * 2) + 1))] [(rd h2 (h3.toNat * 2)), (rd h2 ((h3.toNat * 2) + 1))]) fun x1 =>
          cond (!x1)
            (K1 false)
            (rec h1 h2 (IntKind.wrap .i64 (h3 + 1))))
        none)
      none)
    (K2)

def laws_eqWeatherS_l0 {R : Type} (k : Nat) (K1 : Bool → Option R) (K2 : Option R) (h1 : List Int) (h2 : List Int) (h3 : Int) : Option R :=
  loopF (fun (rec : (List Int) × (List Int) × Int → Option R) (p : (List Int) × (List Int) × Int) => laws_eqWeatherS_s0 k K1 K2 (fun h1 h2 h3 => rec (h1, h2, h3)) p.1 p.2.1 p.2.2) k (h1, h2, h3)

def laws_eqWeatherS (k : Nat) (a1 : List Int) (a2 : List Int) : Option (Bool) :=
  cond (((cnt 2 a1) : Int) != ((cnt 2 a2) : Int))
    (some false)
    (laws_eqWeatherS_l0 k
      (fun y1 =>
        some y1)
      (some true)
      a1 a2 0)

def laws_FnExactCountPlans (k : Nat) (a1 : Int) (a2 : Int) (a3 : Int) (a4 : List Int) (a5 : Int) : Option (Bool) :=
  Option.bind (laws_szWeatherS k a4 1048576) fun x1 =>
    cond (decide (x1 < 0))
      (some true)
      (Option.bind (laws_toWeatherS k a4) fun x2 =>
        Option.bind (spec_CountPlans k a1 a2 a3 x2 a5) fun x3 =>
          Option.bind (laws_toWeatherS k a4) fun x4 =>
            Option.bind (impl_CountPlans k a1 a2 a3 x4 a5) fun x5 =>
              cond (x5.1 != x3.1)
                (some false)
                (cond (x5.2 != x3.2)
                  (some false)
                  (Option.bind (laws_toWeatherS k a4) fun x6 =>
                    Option.bind (laws_eqWeatherS k x4 x6) fun x7 =>
                      cond (!x7)
                        (some false)
                        (some true))))


end Go.Proofs.Ytkdpdmfkomnalaa.Tt
