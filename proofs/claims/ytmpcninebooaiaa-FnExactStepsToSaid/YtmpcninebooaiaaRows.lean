/-
  No cell of these rows narrows 'for every input' (looked for: loops, veiled, ifaces, maps, wideKeys, modest, calm, conditions, laid).
  DERIVED. THE GIVEN ROWS OF THIS SEAT. 12 by the template 'for every input the law returns true; each argument reads behind the call as it read before'; 0 by the template 'total and deterministic' (their statements: YtmpcninebooaiaaTotals.lean).
  GIVEN WITH THE SEED: the statements are not yours to turn. If you find one false, say at which input.
  Laid BY PROGRAM, IN A SANDBOX (cutbox-rows.mjs): the forced cells as the released guide's own fill.sh prints them over the translation 6c6ae11498b61245… (all of the seat's roots in one cut). By AI agents, Wed Nov 11 2026. No macro, syntax, notation, axiom, sorry.
-/
import Derived.Test.YtmpcninebooaiaaChecked
import GoSem.Claim
import GoSem.ClaimJoined
import GoSem.ClaimMapViews
import Derived.JoinedTies
import Derived.KernelRfl
namespace Go.Proofs.Ytmpcninebooaiaa
/- THE CELL 'sum', in the pinned program and in every row, IS THE sha256 OF THE DUMP (.gsa) THAT YtmpcninebooaiaaProg.lean LOADS. Nothing in Lean hashes anything: it is a label: what it is worth is what the hold of that sum in a sandbox is worth. -/
noncomputable def Try.pinned : Pinned := { name := "ytmpcninebooaiaa", sum := "6c6ae11498b6124514197e12c7b5176cd6e9b63bc065dc9e74a00a1fd837212b", checked := Try.checked }
namespace Rows
def none {H : Type} : Left H := { results := [], args := [] }

/-- 'laws.FnExactLongestRun': WHATEVER THE INPUT: true; the input reads as it did. -/
def fnExactLongestRunSpec : ChangeSpec := { name := "fnExactLongestRun", fn := fun _ => fun
  | [d1, d2] => { results := [.lit (.bool true)], args := [d1, d2] }
  | _ => none }
def fnExactLongestRunRow : OpenClaim := { program := "ytmpcninebooaiaa", sum := "6c6ae11498b6124514197e12c7b5176cd6e9b63bc065dc9e74a00a1fd837212b", func := "loop.example/g01405/laws.FnExactLongestRun", spec := "fnExactLongestRun", unfollowed := true, recurses := true, apart := false }
def FnExactLongestRunSaid : Prop := fnExactLongestRunRow.holds Try.pinned (OpenSpec.ofChange fnExactLongestRunSpec)

/-- ITS FALSE NEIGHBOUR: 'it returns false'. Refute it at one input. -/
def fnExactLongestRunWrong : ChangeSpec := { name := "fnExactLongestRun", fn := fun _ => fun
  | [d1, d2] => { results := [.lit (.bool false)], args := [d1, d2] }
  | _ => none }
def FnExactLongestRunWrongFalsely : Prop := fnExactLongestRunRow.holds Try.pinned (OpenSpec.ofChange fnExactLongestRunWrong)

/-- 'laws.FnExactLineFor': WHATEVER THE INPUT: true; the input reads as it did. -/
def fnExactLineForSpec : ChangeSpec := { name := "fnExactLineFor", fn := fun _ => fun
  | [d1, d2] => { results := [.lit (.bool true)], args := [d1, d2] }
  | _ => none }
def fnExactLineForRow : OpenClaim := { program := "ytmpcninebooaiaa", sum := "6c6ae11498b6124514197e12c7b5176cd6e9b63bc065dc9e74a00a1fd837212b", func := "loop.example/g01405/laws.FnExactLineFor", spec := "fnExactLineFor", unfollowed := true, recurses := true, apart := false }
def FnExactLineForSaid : Prop := fnExactLineForRow.holds Try.pinned (OpenSpec.ofChange fnExactLineForSpec)

/-- ITS FALSE NEIGHBOUR: 'it returns false'. Refute it at one input. -/
def fnExactLineForWrong : ChangeSpec := { name := "fnExactLineFor", fn := fun _ => fun
  | [d1, d2] => { results := [.lit (.bool false)], args := [d1, d2] }
  | _ => none }
def FnExactLineForWrongFalsely : Prop := fnExactLineForRow.holds Try.pinned (OpenSpec.ofChange fnExactLineForWrong)

/-- 'laws.FnExactRoundOff': WHATEVER THE INPUT: true; the input reads as it did. -/
def fnExactRoundOffSpec : ChangeSpec := { name := "fnExactRoundOff", fn := fun _ => fun
  | [d] => { results := [.lit (.bool true)], args := [d] }
  | _ => none }
def fnExactRoundOffRow : OpenClaim := { program := "ytmpcninebooaiaa", sum := "6c6ae11498b6124514197e12c7b5176cd6e9b63bc065dc9e74a00a1fd837212b", func := "loop.example/g01405/laws.FnExactRoundOff", spec := "fnExactRoundOff", unfollowed := true, recurses := true, apart := false }
def FnExactRoundOffSaid : Prop := fnExactRoundOffRow.holds Try.pinned (OpenSpec.ofChange fnExactRoundOffSpec)

/-- ITS FALSE NEIGHBOUR: 'it returns false'. Refute it at one input. -/
def fnExactRoundOffWrong : ChangeSpec := { name := "fnExactRoundOff", fn := fun _ => fun
  | [d] => { results := [.lit (.bool false)], args := [d] }
  | _ => none }
def FnExactRoundOffWrongFalsely : Prop := fnExactRoundOffRow.holds Try.pinned (OpenSpec.ofChange fnExactRoundOffWrong)

/-- 'laws.FnExactBorderOf': WHATEVER THE INPUT: true; the input reads as it did. -/
def fnExactBorderOfSpec : ChangeSpec := { name := "fnExactBorderOf", fn := fun _ => fun
  | [d] => { results := [.lit (.bool true)], args := [d] }
  | _ => none }
def fnExactBorderOfRow : OpenClaim := { program := "ytmpcninebooaiaa", sum := "6c6ae11498b6124514197e12c7b5176cd6e9b63bc065dc9e74a00a1fd837212b", func := "loop.example/g01405/laws.FnExactBorderOf", spec := "fnExactBorderOf", unfollowed := true, recurses := true, apart := false }
def FnExactBorderOfSaid : Prop := fnExactBorderOfRow.holds Try.pinned (OpenSpec.ofChange fnExactBorderOfSpec)

/-- ITS FALSE NEIGHBOUR: 'it returns false'. Refute it at one input. -/
def fnExactBorderOfWrong : ChangeSpec := { name := "fnExactBorderOf", fn := fun _ => fun
  | [d] => { results := [.lit (.bool false)], args := [d] }
  | _ => none }
def FnExactBorderOfWrongFalsely : Prop := fnExactBorderOfRow.holds Try.pinned (OpenSpec.ofChange fnExactBorderOfWrong)

/-- 'laws.FnExactInnerOf': WHATEVER THE INPUT: true; the input reads as it did. -/
def fnExactInnerOfSpec : ChangeSpec := { name := "fnExactInnerOf", fn := fun _ => fun
  | [d] => { results := [.lit (.bool true)], args := [d] }
  | _ => none }
def fnExactInnerOfRow : OpenClaim := { program := "ytmpcninebooaiaa", sum := "6c6ae11498b6124514197e12c7b5176cd6e9b63bc065dc9e74a00a1fd837212b", func := "loop.example/g01405/laws.FnExactInnerOf", spec := "fnExactInnerOf", unfollowed := true, recurses := true, apart := false }
def FnExactInnerOfSaid : Prop := fnExactInnerOfRow.holds Try.pinned (OpenSpec.ofChange fnExactInnerOfSpec)

/-- ITS FALSE NEIGHBOUR: 'it returns false'. Refute it at one input. -/
def fnExactInnerOfWrong : ChangeSpec := { name := "fnExactInnerOf", fn := fun _ => fun
  | [d] => { results := [.lit (.bool false)], args := [d] }
  | _ => none }
def FnExactInnerOfWrongFalsely : Prop := fnExactInnerOfRow.holds Try.pinned (OpenSpec.ofChange fnExactInnerOfWrong)

/-- 'laws.FnExactCheckWay': WHATEVER THE INPUT: true; the input reads as it did. -/
def fnExactCheckWaySpec : ChangeSpec := { name := "fnExactCheckWay", fn := fun _ => fun
  | [d1, d2, d3] => { results := [.lit (.bool true)], args := [d1, d2, d3] }
  | _ => none }
def fnExactCheckWayRow : OpenClaim := { program := "ytmpcninebooaiaa", sum := "6c6ae11498b6124514197e12c7b5176cd6e9b63bc065dc9e74a00a1fd837212b", func := "loop.example/g01405/laws.FnExactCheckWay", spec := "fnExactCheckWay", inPlace := ["internal/bytealg.IndexByteString"], unfollowed := true, recurses := true, apart := false }
def FnExactCheckWaySaid : Prop := fnExactCheckWayRow.holds Try.pinned (OpenSpec.ofChange fnExactCheckWaySpec)

/-- ITS FALSE NEIGHBOUR: 'it returns false'. Refute it at one input. -/
def fnExactCheckWayWrong : ChangeSpec := { name := "fnExactCheckWay", fn := fun _ => fun
  | [d1, d2, d3] => { results := [.lit (.bool false)], args := [d1, d2, d3] }
  | _ => none }
def FnExactCheckWayWrongFalsely : Prop := fnExactCheckWayRow.holds Try.pinned (OpenSpec.ofChange fnExactCheckWayWrong)

/-- 'laws.FnExactMoveSoil': WHATEVER THE INPUT: true; the input reads as it did. -/
def fnExactMoveSoilSpec : ChangeSpec := { name := "fnExactMoveSoil", fn := fun _ => fun
  | [d1, d2, d3] => { results := [.lit (.bool true)], args := [d1, d2, d3] }
  | _ => none }
def fnExactMoveSoilRow : OpenClaim := { program := "ytmpcninebooaiaa", sum := "6c6ae11498b6124514197e12c7b5176cd6e9b63bc065dc9e74a00a1fd837212b", func := "loop.example/g01405/laws.FnExactMoveSoil", spec := "fnExactMoveSoil", unfollowed := true, recurses := true, apart := false }
def FnExactMoveSoilSaid : Prop := fnExactMoveSoilRow.holds Try.pinned (OpenSpec.ofChange fnExactMoveSoilSpec)

/-- ITS FALSE NEIGHBOUR: 'it returns false'. Refute it at one input. -/
def fnExactMoveSoilWrong : ChangeSpec := { name := "fnExactMoveSoil", fn := fun _ => fun
  | [d1, d2, d3] => { results := [.lit (.bool false)], args := [d1, d2, d3] }
  | _ => none }
def FnExactMoveSoilWrongFalsely : Prop := fnExactMoveSoilRow.holds Try.pinned (OpenSpec.ofChange fnExactMoveSoilWrong)

/-- 'laws.FnExactHighestCell': WHATEVER THE INPUT: true; the input reads as it did. -/
def fnExactHighestCellSpec : ChangeSpec := { name := "fnExactHighestCell", fn := fun _ => fun
  | [d1, d2] => { results := [.lit (.bool true)], args := [d1, d2] }
  | _ => none }
def fnExactHighestCellRow : OpenClaim := { program := "ytmpcninebooaiaa", sum := "6c6ae11498b6124514197e12c7b5176cd6e9b63bc065dc9e74a00a1fd837212b", func := "loop.example/g01405/laws.FnExactHighestCell", spec := "fnExactHighestCell", unfollowed := true, recurses := true, apart := false }
def FnExactHighestCellSaid : Prop := fnExactHighestCellRow.holds Try.pinned (OpenSpec.ofChange fnExactHighestCellSpec)

/-- ITS FALSE NEIGHBOUR: 'it returns false'. Refute it at one input. -/
def fnExactHighestCellWrong : ChangeSpec := { name := "fnExactHighestCell", fn := fun _ => fun
  | [d1, d2] => { results := [.lit (.bool false)], args := [d1, d2] }
  | _ => none }
def FnExactHighestCellWrongFalsely : Prop := fnExactHighestCellRow.holds Try.pinned (OpenSpec.ofChange fnExactHighestCellWrong)

/-- 'laws.FnExactRunsOf': WHATEVER THE INPUT: true; the input reads as it did. -/
def fnExactRunsOfSpec : ChangeSpec := { name := "fnExactRunsOf", fn := fun _ => fun
  | [d1, d2] => { results := [.lit (.bool true)], args := [d1, d2] }
  | _ => none }
def fnExactRunsOfRow : OpenClaim := { program := "ytmpcninebooaiaa", sum := "6c6ae11498b6124514197e12c7b5176cd6e9b63bc065dc9e74a00a1fd837212b", func := "loop.example/g01405/laws.FnExactRunsOf", spec := "fnExactRunsOf", unfollowed := true, recurses := true, apart := false }
def FnExactRunsOfSaid : Prop := fnExactRunsOfRow.holds Try.pinned (OpenSpec.ofChange fnExactRunsOfSpec)

/-- ITS FALSE NEIGHBOUR: 'it returns false'. Refute it at one input. -/
def fnExactRunsOfWrong : ChangeSpec := { name := "fnExactRunsOf", fn := fun _ => fun
  | [d1, d2] => { results := [.lit (.bool false)], args := [d1, d2] }
  | _ => none }
def FnExactRunsOfWrongFalsely : Prop := fnExactRunsOfRow.holds Try.pinned (OpenSpec.ofChange fnExactRunsOfWrong)

/-- 'laws.FnExactStepsTo': WHATEVER THE INPUT: true; the input reads as it did. -/
def fnExactStepsToSpec : ChangeSpec := { name := "fnExactStepsTo", fn := fun _ => fun
  | [d1, d2, d3] => { results := [.lit (.bool true)], args := [d1, d2, d3] }
  | _ => none }
def fnExactStepsToRow : OpenClaim := { program := "ytmpcninebooaiaa", sum := "6c6ae11498b6124514197e12c7b5176cd6e9b63bc065dc9e74a00a1fd837212b", func := "loop.example/g01405/laws.FnExactStepsTo", spec := "fnExactStepsTo", unfollowed := true, recurses := true, apart := false }
def FnExactStepsToSaid : Prop := fnExactStepsToRow.holds Try.pinned (OpenSpec.ofChange fnExactStepsToSpec)

/-- ITS FALSE NEIGHBOUR: 'it returns false'. Refute it at one input. -/
def fnExactStepsToWrong : ChangeSpec := { name := "fnExactStepsTo", fn := fun _ => fun
  | [d1, d2, d3] => { results := [.lit (.bool false)], args := [d1, d2, d3] }
  | _ => none }
def FnExactStepsToWrongFalsely : Prop := fnExactStepsToRow.holds Try.pinned (OpenSpec.ofChange fnExactStepsToWrong)

/-- 'laws.FnExactGiveUp': WHATEVER THE INPUT: true; the input reads as it did. -/
def fnExactGiveUpSpec : ChangeSpec := { name := "fnExactGiveUp", fn := fun _ => fun
  | [d] => { results := [.lit (.bool true)], args := [d] }
  | _ => none }
def fnExactGiveUpRow : OpenClaim := { program := "ytmpcninebooaiaa", sum := "6c6ae11498b6124514197e12c7b5176cd6e9b63bc065dc9e74a00a1fd837212b", func := "loop.example/g01405/laws.FnExactGiveUp", spec := "fnExactGiveUp", unfollowed := true, recurses := true, apart := false }
def FnExactGiveUpSaid : Prop := fnExactGiveUpRow.holds Try.pinned (OpenSpec.ofChange fnExactGiveUpSpec)

/-- ITS FALSE NEIGHBOUR: 'it returns false'. Refute it at one input. -/
def fnExactGiveUpWrong : ChangeSpec := { name := "fnExactGiveUp", fn := fun _ => fun
  | [d] => { results := [.lit (.bool false)], args := [d] }
  | _ => none }
def FnExactGiveUpWrongFalsely : Prop := fnExactGiveUpRow.holds Try.pinned (OpenSpec.ofChange fnExactGiveUpWrong)

/-- 'laws.FnExactPlantAt': WHATEVER THE INPUT: true; the input reads as it did. -/
def fnExactPlantAtSpec : ChangeSpec := { name := "fnExactPlantAt", fn := fun _ => fun
  | [d] => { results := [.lit (.bool true)], args := [d] }
  | _ => none }
def fnExactPlantAtRow : OpenClaim := { program := "ytmpcninebooaiaa", sum := "6c6ae11498b6124514197e12c7b5176cd6e9b63bc065dc9e74a00a1fd837212b", func := "loop.example/g01405/laws.FnExactPlantAt", spec := "fnExactPlantAt", unfollowed := true, recurses := true, apart := false }
def FnExactPlantAtSaid : Prop := fnExactPlantAtRow.holds Try.pinned (OpenSpec.ofChange fnExactPlantAtSpec)

/-- ITS FALSE NEIGHBOUR: 'it returns false'. Refute it at one input. -/
def fnExactPlantAtWrong : ChangeSpec := { name := "fnExactPlantAt", fn := fun _ => fun
  | [d] => { results := [.lit (.bool false)], args := [d] }
  | _ => none }
def FnExactPlantAtWrongFalsely : Prop := fnExactPlantAtRow.holds Try.pinned (OpenSpec.ofChange fnExactPlantAtWrong)

/- THE SECOND FORM. 'bulk': how many values and letters a reading holds, each counted each time it is reached (what is shared counts as often as it is met; a slice's spare places count too). A statement '..UptoSaid' is the law's where the arguments, and the package variables that the reading takes, are together of bulk at most 1048576: NARROWER than '..Said'. Prove '..Said' where nothing that the law and all that it calls make is longer than what came in: it says more and counts as full. Else prove '..UptoSaid'. A law counts once. -/
mutual
def uptoBulk {H : Type} : DataW H → Nat
  | .lit (.string bytes) => bytes.length + 1
  | .lit _ => 1
  | .nil => 1
  | .ptr d => uptoBulk d + 1
  | .slice elems spare => uptoBulkAll elems + uptoBulkAll spare + 1
  | .agg parts => uptoBulkAll parts + 1
  | .iface _ d => uptoBulk d + 1
  | .map entries => uptoBulkEntries entries + 1
  | .held _ => 1
def uptoBulkAll {H : Type} : List (DataW H) → Nat
  | [] => 0
  | d :: r => uptoBulk d + uptoBulkAll r
def uptoBulkEntries {H : Type} : List (Lit × DataW H) → Nat
  | [] => 0
  | x :: r => uptoBulkEntry x + uptoBulkEntries r
def uptoBulkEntry {H : Type} : Lit × DataW H → Nat
  | (.string bytes, d) => bytes.length + uptoBulk d + 1
  | (_, d) => uptoBulk d + 1
 end
def uptoSmall : (H : Type) → List (DataW H) → Bool := fun _ ds => decide (uptoBulkAll ds ≤ 1048576)
def OpenSpec.upto (s : _root_.Go.ChangeSpec) : _root_.Go.OpenSpec := { _root_.Go.OpenSpec.ofChange s with cond := some uptoSmall }

/-- 'laws.FnExactLongestRun', WHERE WHAT IT READS IS OF BULK AT MOST 1048576: true; the input reads as it did. -/
def fnExactLongestRunUptoRow : OpenClaim := { program := "ytmpcninebooaiaa", sum := "6c6ae11498b6124514197e12c7b5176cd6e9b63bc065dc9e74a00a1fd837212b", func := "loop.example/g01405/laws.FnExactLongestRun", spec := "fnExactLongestRun", unfollowed := true, recurses := true, apart := false, narrowed := true }
def FnExactLongestRunUptoSaid : Prop := fnExactLongestRunUptoRow.holds Try.pinned (OpenSpec.upto fnExactLongestRunSpec)

/-- 'laws.FnExactLineFor', WHERE WHAT IT READS IS OF BULK AT MOST 1048576: true; the input reads as it did. -/
def fnExactLineForUptoRow : OpenClaim := { program := "ytmpcninebooaiaa", sum := "6c6ae11498b6124514197e12c7b5176cd6e9b63bc065dc9e74a00a1fd837212b", func := "loop.example/g01405/laws.FnExactLineFor", spec := "fnExactLineFor", unfollowed := true, recurses := true, apart := false, narrowed := true }
def FnExactLineForUptoSaid : Prop := fnExactLineForUptoRow.holds Try.pinned (OpenSpec.upto fnExactLineForSpec)

/-- 'laws.FnExactRoundOff', WHERE WHAT IT READS IS OF BULK AT MOST 1048576: true; the input reads as it did. -/
def fnExactRoundOffUptoRow : OpenClaim := { program := "ytmpcninebooaiaa", sum := "6c6ae11498b6124514197e12c7b5176cd6e9b63bc065dc9e74a00a1fd837212b", func := "loop.example/g01405/laws.FnExactRoundOff", spec := "fnExactRoundOff", unfollowed := true, recurses := true, apart := false, narrowed := true }
def FnExactRoundOffUptoSaid : Prop := fnExactRoundOffUptoRow.holds Try.pinned (OpenSpec.upto fnExactRoundOffSpec)

/-- 'laws.FnExactBorderOf', WHERE WHAT IT READS IS OF BULK AT MOST 1048576: true; the input reads as it did. -/
def fnExactBorderOfUptoRow : OpenClaim := { program := "ytmpcninebooaiaa", sum := "6c6ae11498b6124514197e12c7b5176cd6e9b63bc065dc9e74a00a1fd837212b", func := "loop.example/g01405/laws.FnExactBorderOf", spec := "fnExactBorderOf", unfollowed := true, recurses := true, apart := false, narrowed := true }
def FnExactBorderOfUptoSaid : Prop := fnExactBorderOfUptoRow.holds Try.pinned (OpenSpec.upto fnExactBorderOfSpec)

/-- 'laws.FnExactInnerOf', WHERE WHAT IT READS IS OF BULK AT MOST 1048576: true; the input reads as it did. -/
def fnExactInnerOfUptoRow : OpenClaim := { program := "ytmpcninebooaiaa", sum := "6c6ae11498b6124514197e12c7b5176cd6e9b63bc065dc9e74a00a1fd837212b", func := "loop.example/g01405/laws.FnExactInnerOf", spec := "fnExactInnerOf", unfollowed := true, recurses := true, apart := false, narrowed := true }
def FnExactInnerOfUptoSaid : Prop := fnExactInnerOfUptoRow.holds Try.pinned (OpenSpec.upto fnExactInnerOfSpec)

/-- 'laws.FnExactCheckWay', WHERE WHAT IT READS IS OF BULK AT MOST 1048576: true; the input reads as it did. -/
def fnExactCheckWayUptoRow : OpenClaim := { program := "ytmpcninebooaiaa", sum := "6c6ae11498b6124514197e12c7b5176cd6e9b63bc065dc9e74a00a1fd837212b", func := "loop.example/g01405/laws.FnExactCheckWay", spec := "fnExactCheckWay", inPlace := ["internal/bytealg.IndexByteString"], unfollowed := true, recurses := true, apart := false, narrowed := true }
def FnExactCheckWayUptoSaid : Prop := fnExactCheckWayUptoRow.holds Try.pinned (OpenSpec.upto fnExactCheckWaySpec)

/-- 'laws.FnExactMoveSoil', WHERE WHAT IT READS IS OF BULK AT MOST 1048576: true; the input reads as it did. -/
def fnExactMoveSoilUptoRow : OpenClaim := { program := "ytmpcninebooaiaa", sum := "6c6ae11498b6124514197e12c7b5176cd6e9b63bc065dc9e74a00a1fd837212b", func := "loop.example/g01405/laws.FnExactMoveSoil", spec := "fnExactMoveSoil", unfollowed := true, recurses := true, apart := false, narrowed := true }
def FnExactMoveSoilUptoSaid : Prop := fnExactMoveSoilUptoRow.holds Try.pinned (OpenSpec.upto fnExactMoveSoilSpec)

/-- 'laws.FnExactHighestCell', WHERE WHAT IT READS IS OF BULK AT MOST 1048576: true; the input reads as it did. -/
def fnExactHighestCellUptoRow : OpenClaim := { program := "ytmpcninebooaiaa", sum := "6c6ae11498b6124514197e12c7b5176cd6e9b63bc065dc9e74a00a1fd837212b", func := "loop.example/g01405/laws.FnExactHighestCell", spec := "fnExactHighestCell", unfollowed := true, recurses := true, apart := false, narrowed := true }
def FnExactHighestCellUptoSaid : Prop := fnExactHighestCellUptoRow.holds Try.pinned (OpenSpec.upto fnExactHighestCellSpec)

/-- 'laws.FnExactRunsOf', WHERE WHAT IT READS IS OF BULK AT MOST 1048576: true; the input reads as it did. -/
def fnExactRunsOfUptoRow : OpenClaim := { program := "ytmpcninebooaiaa", sum := "6c6ae11498b6124514197e12c7b5176cd6e9b63bc065dc9e74a00a1fd837212b", func := "loop.example/g01405/laws.FnExactRunsOf", spec := "fnExactRunsOf", unfollowed := true, recurses := true, apart := false, narrowed := true }
def FnExactRunsOfUptoSaid : Prop := fnExactRunsOfUptoRow.holds Try.pinned (OpenSpec.upto fnExactRunsOfSpec)

/-- 'laws.FnExactStepsTo', WHERE WHAT IT READS IS OF BULK AT MOST 1048576: true; the input reads as it did. -/
def fnExactStepsToUptoRow : OpenClaim := { program := "ytmpcninebooaiaa", sum := "6c6ae11498b6124514197e12c7b5176cd6e9b63bc065dc9e74a00a1fd837212b", func := "loop.example/g01405/laws.FnExactStepsTo", spec := "fnExactStepsTo", unfollowed := true, recurses := true, apart := false, narrowed := true }
def FnExactStepsToUptoSaid : Prop := fnExactStepsToUptoRow.holds Try.pinned (OpenSpec.upto fnExactStepsToSpec)

/-- 'laws.FnExactGiveUp', WHERE WHAT IT READS IS OF BULK AT MOST 1048576: true; the input reads as it did. -/
def fnExactGiveUpUptoRow : OpenClaim := { program := "ytmpcninebooaiaa", sum := "6c6ae11498b6124514197e12c7b5176cd6e9b63bc065dc9e74a00a1fd837212b", func := "loop.example/g01405/laws.FnExactGiveUp", spec := "fnExactGiveUp", unfollowed := true, recurses := true, apart := false, narrowed := true }
def FnExactGiveUpUptoSaid : Prop := fnExactGiveUpUptoRow.holds Try.pinned (OpenSpec.upto fnExactGiveUpSpec)

/-- 'laws.FnExactPlantAt', WHERE WHAT IT READS IS OF BULK AT MOST 1048576: true; the input reads as it did. -/
def fnExactPlantAtUptoRow : OpenClaim := { program := "ytmpcninebooaiaa", sum := "6c6ae11498b6124514197e12c7b5176cd6e9b63bc065dc9e74a00a1fd837212b", func := "loop.example/g01405/laws.FnExactPlantAt", spec := "fnExactPlantAt", unfollowed := true, recurses := true, apart := false, narrowed := true }
def FnExactPlantAtUptoSaid : Prop := fnExactPlantAtUptoRow.holds Try.pinned (OpenSpec.upto fnExactPlantAtSpec)

end Rows
end Go.Proofs.Ytmpcninebooaiaa
