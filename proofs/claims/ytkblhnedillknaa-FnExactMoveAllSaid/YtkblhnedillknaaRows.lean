/-
  No cell of these rows narrows 'for every input' (looked for: loops, veiled, ifaces, maps, wideKeys, modest, calm, conditions, laid).
  DERIVED. THE GIVEN ROWS OF THIS SEAT. 12 by the template 'for every input the law returns true; each argument reads behind the call as it read before'; 0 by the template 'total and deterministic' (their statements: YtkblhnedillknaaTotals.lean).
  GIVEN WITH THE SEED: the statements are not yours to turn. If you find one false, say at which input.
  Laid BY PROGRAM, IN A SANDBOX (cutbox-rows.mjs): the forced cells as the released guide's own fill.sh prints them over the translation 8b02c4e3b465699c… (all of the seat's roots in one cut). By AI agents, Wed Nov 11 2026. No macro, syntax, notation, axiom, sorry.
-/
import Derived.Test.YtkblhnedillknaaChecked
import GoSem.Claim
import GoSem.ClaimJoined
import GoSem.ClaimMapViews
import Derived.JoinedTies
import Derived.KernelRfl
namespace Go.Proofs.Ytkblhnedillknaa
/- THE CELL 'sum', in the pinned program and in every row, IS THE sha256 OF THE DUMP (.gsa) THAT YtkblhnedillknaaProg.lean LOADS. Nothing in Lean hashes anything: it is a label: what it is worth is what the hold of that sum in a sandbox is worth. -/
noncomputable def Try.pinned : Pinned := { name := "ytkblhnedillknaa", sum := "8b02c4e3b465699c1e63d0626487992c62e6a15b926d28fdce2f15de5d068c0d", checked := Try.checked }
namespace Rows
def none {H : Type} : Left H := { results := [], args := [] }

/-- 'laws.FnExactEndOf': WHATEVER THE INPUT: true; the input reads as it did. -/
def fnExactEndOfSpec : ChangeSpec := { name := "fnExactEndOf", fn := fun _ => fun
  | [d1, d2, d3] => { results := [.lit (.bool true)], args := [d1, d2, d3] }
  | _ => none }
def fnExactEndOfRow : OpenClaim := { program := "ytkblhnedillknaa", sum := "8b02c4e3b465699c1e63d0626487992c62e6a15b926d28fdce2f15de5d068c0d", func := "loop.example/g01405/laws.FnExactEndOf", spec := "fnExactEndOf", inPlace := ["internal/bytealg.IndexByteString"], unfollowed := true, recurses := true, plainKeys := false, apart := false }
def FnExactEndOfSaid : Prop := fnExactEndOfRow.holds Try.pinned (OpenSpec.ofChange fnExactEndOfSpec)

/-- ITS FALSE NEIGHBOUR: 'it returns false'. Refute it at one input. -/
def fnExactEndOfWrong : ChangeSpec := { name := "fnExactEndOf", fn := fun _ => fun
  | [d1, d2, d3] => { results := [.lit (.bool false)], args := [d1, d2, d3] }
  | _ => none }
def FnExactEndOfWrongFalsely : Prop := fnExactEndOfRow.holds Try.pinned (OpenSpec.ofChange fnExactEndOfWrong)

/-- 'laws.FnExactSteepSteps': WHATEVER THE INPUT: true; the input reads as it did. -/
def fnExactSteepStepsSpec : ChangeSpec := { name := "fnExactSteepSteps", fn := fun _ => fun
  | [d1, d2, d3] => { results := [.lit (.bool true)], args := [d1, d2, d3] }
  | _ => none }
def fnExactSteepStepsRow : OpenClaim := { program := "ytkblhnedillknaa", sum := "8b02c4e3b465699c1e63d0626487992c62e6a15b926d28fdce2f15de5d068c0d", func := "loop.example/g01405/laws.FnExactSteepSteps", spec := "fnExactSteepSteps", unfollowed := true, recurses := true, plainKeys := false, apart := false }
def FnExactSteepStepsSaid : Prop := fnExactSteepStepsRow.holds Try.pinned (OpenSpec.ofChange fnExactSteepStepsSpec)

/-- ITS FALSE NEIGHBOUR: 'it returns false'. Refute it at one input. -/
def fnExactSteepStepsWrong : ChangeSpec := { name := "fnExactSteepSteps", fn := fun _ => fun
  | [d1, d2, d3] => { results := [.lit (.bool false)], args := [d1, d2, d3] }
  | _ => none }
def FnExactSteepStepsWrongFalsely : Prop := fnExactSteepStepsRow.holds Try.pinned (OpenSpec.ofChange fnExactSteepStepsWrong)

/-- 'laws.FnExactSpoolsFor': WHATEVER THE INPUT: true; the input reads as it did. -/
def fnExactSpoolsForSpec : ChangeSpec := { name := "fnExactSpoolsFor", fn := fun _ => fun
  | [d1, d2, d3] => { results := [.lit (.bool true)], args := [d1, d2, d3] }
  | _ => none }
def fnExactSpoolsForRow : OpenClaim := { program := "ytkblhnedillknaa", sum := "8b02c4e3b465699c1e63d0626487992c62e6a15b926d28fdce2f15de5d068c0d", func := "loop.example/g01405/laws.FnExactSpoolsFor", spec := "fnExactSpoolsFor", unfollowed := true, recurses := true, plainKeys := false, apart := false }
def FnExactSpoolsForSaid : Prop := fnExactSpoolsForRow.holds Try.pinned (OpenSpec.ofChange fnExactSpoolsForSpec)

/-- ITS FALSE NEIGHBOUR: 'it returns false'. Refute it at one input. -/
def fnExactSpoolsForWrong : ChangeSpec := { name := "fnExactSpoolsFor", fn := fun _ => fun
  | [d1, d2, d3] => { results := [.lit (.bool false)], args := [d1, d2, d3] }
  | _ => none }
def FnExactSpoolsForWrongFalsely : Prop := fnExactSpoolsForRow.holds Try.pinned (OpenSpec.ofChange fnExactSpoolsForWrong)

/-- 'laws.FnExactHillsIn': WHATEVER THE INPUT: true; the input reads as it did. -/
def fnExactHillsInSpec : ChangeSpec := { name := "fnExactHillsIn", fn := fun _ => fun
  | [d1, d2, d3] => { results := [.lit (.bool true)], args := [d1, d2, d3] }
  | _ => none }
def fnExactHillsInRow : OpenClaim := { program := "ytkblhnedillknaa", sum := "8b02c4e3b465699c1e63d0626487992c62e6a15b926d28fdce2f15de5d068c0d", func := "loop.example/g01405/laws.FnExactHillsIn", spec := "fnExactHillsIn", unfollowed := true, recurses := true, plainKeys := false, apart := false }
def FnExactHillsInSaid : Prop := fnExactHillsInRow.holds Try.pinned (OpenSpec.ofChange fnExactHillsInSpec)

/-- ITS FALSE NEIGHBOUR: 'it returns false'. Refute it at one input. -/
def fnExactHillsInWrong : ChangeSpec := { name := "fnExactHillsIn", fn := fun _ => fun
  | [d1, d2, d3] => { results := [.lit (.bool false)], args := [d1, d2, d3] }
  | _ => none }
def FnExactHillsInWrongFalsely : Prop := fnExactHillsInRow.holds Try.pinned (OpenSpec.ofChange fnExactHillsInWrong)

/-- 'laws.FnExactRingsOf': WHATEVER THE INPUT: true; the input reads as it did. -/
def fnExactRingsOfSpec : ChangeSpec := { name := "fnExactRingsOf", fn := fun _ => fun
  | [d] => { results := [.lit (.bool true)], args := [d] }
  | _ => none }
def fnExactRingsOfRow : OpenClaim := { program := "ytkblhnedillknaa", sum := "8b02c4e3b465699c1e63d0626487992c62e6a15b926d28fdce2f15de5d068c0d", func := "loop.example/g01405/laws.FnExactRingsOf", spec := "fnExactRingsOf", unfollowed := true, recurses := true, plainKeys := false, apart := false }
def FnExactRingsOfSaid : Prop := fnExactRingsOfRow.holds Try.pinned (OpenSpec.ofChange fnExactRingsOfSpec)

/-- ITS FALSE NEIGHBOUR: 'it returns false'. Refute it at one input. -/
def fnExactRingsOfWrong : ChangeSpec := { name := "fnExactRingsOf", fn := fun _ => fun
  | [d] => { results := [.lit (.bool false)], args := [d] }
  | _ => none }
def FnExactRingsOfWrongFalsely : Prop := fnExactRingsOfRow.holds Try.pinned (OpenSpec.ofChange fnExactRingsOfWrong)

/-- 'laws.FnExactStepsFrom': WHATEVER THE INPUT: true; the input reads as it did. -/
def fnExactStepsFromSpec : ChangeSpec := { name := "fnExactStepsFrom", fn := fun _ => fun
  | [d1, d2] => { results := [.lit (.bool true)], args := [d1, d2] }
  | _ => none }
def fnExactStepsFromRow : OpenClaim := { program := "ytkblhnedillknaa", sum := "8b02c4e3b465699c1e63d0626487992c62e6a15b926d28fdce2f15de5d068c0d", func := "loop.example/g01405/laws.FnExactStepsFrom", spec := "fnExactStepsFrom", unfollowed := true, recurses := true, plainKeys := false, apart := false }
def FnExactStepsFromSaid : Prop := fnExactStepsFromRow.holds Try.pinned (OpenSpec.ofChange fnExactStepsFromSpec)

/-- ITS FALSE NEIGHBOUR: 'it returns false'. Refute it at one input. -/
def fnExactStepsFromWrong : ChangeSpec := { name := "fnExactStepsFrom", fn := fun _ => fun
  | [d1, d2] => { results := [.lit (.bool false)], args := [d1, d2] }
  | _ => none }
def FnExactStepsFromWrongFalsely : Prop := fnExactStepsFromRow.holds Try.pinned (OpenSpec.ofChange fnExactStepsFromWrong)

/-- 'laws.FnExactMoveAll': WHATEVER THE INPUT: true; the input reads as it did. -/
def fnExactMoveAllSpec : ChangeSpec := { name := "fnExactMoveAll", fn := fun _ => fun
  | [d1, d2, d3] => { results := [.lit (.bool true)], args := [d1, d2, d3] }
  | _ => none }
def fnExactMoveAllRow : OpenClaim := { program := "ytkblhnedillknaa", sum := "8b02c4e3b465699c1e63d0626487992c62e6a15b926d28fdce2f15de5d068c0d", func := "loop.example/g01405/laws.FnExactMoveAll", spec := "fnExactMoveAll", unfollowed := true, recurses := true, plainKeys := false, apart := false }
def FnExactMoveAllSaid : Prop := fnExactMoveAllRow.holds Try.pinned (OpenSpec.ofChange fnExactMoveAllSpec)

/-- ITS FALSE NEIGHBOUR: 'it returns false'. Refute it at one input. -/
def fnExactMoveAllWrong : ChangeSpec := { name := "fnExactMoveAll", fn := fun _ => fun
  | [d1, d2, d3] => { results := [.lit (.bool false)], args := [d1, d2, d3] }
  | _ => none }
def FnExactMoveAllWrongFalsely : Prop := fnExactMoveAllRow.holds Try.pinned (OpenSpec.ofChange fnExactMoveAllWrong)

/-- 'laws.FnExactHomeFrom': WHATEVER THE INPUT: true; the input reads as it did. -/
def fnExactHomeFromSpec : ChangeSpec := { name := "fnExactHomeFrom", fn := fun _ => fun
  | [d1, d2, d3] => { results := [.lit (.bool true)], args := [d1, d2, d3] }
  | _ => none }
def fnExactHomeFromRow : OpenClaim := { program := "ytkblhnedillknaa", sum := "8b02c4e3b465699c1e63d0626487992c62e6a15b926d28fdce2f15de5d068c0d", func := "loop.example/g01405/laws.FnExactHomeFrom", spec := "fnExactHomeFrom", unfollowed := true, recurses := true, plainKeys := false, apart := false }
def FnExactHomeFromSaid : Prop := fnExactHomeFromRow.holds Try.pinned (OpenSpec.ofChange fnExactHomeFromSpec)

/-- ITS FALSE NEIGHBOUR: 'it returns false'. Refute it at one input. -/
def fnExactHomeFromWrong : ChangeSpec := { name := "fnExactHomeFrom", fn := fun _ => fun
  | [d1, d2, d3] => { results := [.lit (.bool false)], args := [d1, d2, d3] }
  | _ => none }
def FnExactHomeFromWrongFalsely : Prop := fnExactHomeFromRow.holds Try.pinned (OpenSpec.ofChange fnExactHomeFromWrong)

/-- 'laws.FnExactMoleOnce': WHATEVER THE INPUT: true; the input reads as it did. -/
def fnExactMoleOnceSpec : ChangeSpec := { name := "fnExactMoleOnce", fn := fun _ => fun
  | [d1, d2, d3, d4] => { results := [.lit (.bool true)], args := [d1, d2, d3, d4] }
  | _ => none }
def fnExactMoleOnceRow : OpenClaim := { program := "ytkblhnedillknaa", sum := "8b02c4e3b465699c1e63d0626487992c62e6a15b926d28fdce2f15de5d068c0d", func := "loop.example/g01405/laws.FnExactMoleOnce", spec := "fnExactMoleOnce", unfollowed := true, recurses := true, plainKeys := false, apart := false }
def FnExactMoleOnceSaid : Prop := fnExactMoleOnceRow.holds Try.pinned (OpenSpec.ofChange fnExactMoleOnceSpec)

/-- ITS FALSE NEIGHBOUR: 'it returns false'. Refute it at one input. -/
def fnExactMoleOnceWrong : ChangeSpec := { name := "fnExactMoleOnce", fn := fun _ => fun
  | [d1, d2, d3, d4] => { results := [.lit (.bool false)], args := [d1, d2, d3, d4] }
  | _ => none }
def FnExactMoleOnceWrongFalsely : Prop := fnExactMoleOnceRow.holds Try.pinned (OpenSpec.ofChange fnExactMoleOnceWrong)

/-- 'laws.FnExactCoveredBy': WHATEVER THE INPUT: true; the input reads as it did. -/
def fnExactCoveredBySpec : ChangeSpec := { name := "fnExactCoveredBy", fn := fun _ => fun
  | [d1, d2] => { results := [.lit (.bool true)], args := [d1, d2] }
  | _ => none }
def fnExactCoveredByRow : OpenClaim := { program := "ytkblhnedillknaa", sum := "8b02c4e3b465699c1e63d0626487992c62e6a15b926d28fdce2f15de5d068c0d", func := "loop.example/g01405/laws.FnExactCoveredBy", spec := "fnExactCoveredBy", unfollowed := true, recurses := true, plainKeys := false, apart := false }
def FnExactCoveredBySaid : Prop := fnExactCoveredByRow.holds Try.pinned (OpenSpec.ofChange fnExactCoveredBySpec)

/-- ITS FALSE NEIGHBOUR: 'it returns false'. Refute it at one input. -/
def fnExactCoveredByWrong : ChangeSpec := { name := "fnExactCoveredBy", fn := fun _ => fun
  | [d1, d2] => { results := [.lit (.bool false)], args := [d1, d2] }
  | _ => none }
def FnExactCoveredByWrongFalsely : Prop := fnExactCoveredByRow.holds Try.pinned (OpenSpec.ofChange fnExactCoveredByWrong)

/-- 'laws.FnExactCoveredTwice': WHATEVER THE INPUT: true; the input reads as it did. -/
def fnExactCoveredTwiceSpec : ChangeSpec := { name := "fnExactCoveredTwice", fn := fun _ => fun
  | [d1, d2] => { results := [.lit (.bool true)], args := [d1, d2] }
  | _ => none }
def fnExactCoveredTwiceRow : OpenClaim := { program := "ytkblhnedillknaa", sum := "8b02c4e3b465699c1e63d0626487992c62e6a15b926d28fdce2f15de5d068c0d", func := "loop.example/g01405/laws.FnExactCoveredTwice", spec := "fnExactCoveredTwice", unfollowed := true, recurses := true, plainKeys := false, apart := false }
def FnExactCoveredTwiceSaid : Prop := fnExactCoveredTwiceRow.holds Try.pinned (OpenSpec.ofChange fnExactCoveredTwiceSpec)

/-- ITS FALSE NEIGHBOUR: 'it returns false'. Refute it at one input. -/
def fnExactCoveredTwiceWrong : ChangeSpec := { name := "fnExactCoveredTwice", fn := fun _ => fun
  | [d1, d2] => { results := [.lit (.bool false)], args := [d1, d2] }
  | _ => none }
def FnExactCoveredTwiceWrongFalsely : Prop := fnExactCoveredTwiceRow.holds Try.pinned (OpenSpec.ofChange fnExactCoveredTwiceWrong)

/-- 'laws.FnExactFirstClash': WHATEVER THE INPUT: true; the input reads as it did. -/
def fnExactFirstClashSpec : ChangeSpec := { name := "fnExactFirstClash", fn := fun _ => fun
  | [d1, d2] => { results := [.lit (.bool true)], args := [d1, d2] }
  | _ => none }
def fnExactFirstClashRow : OpenClaim := { program := "ytkblhnedillknaa", sum := "8b02c4e3b465699c1e63d0626487992c62e6a15b926d28fdce2f15de5d068c0d", func := "loop.example/g01405/laws.FnExactFirstClash", spec := "fnExactFirstClash", unfollowed := true, recurses := true, plainKeys := false, apart := false }
def FnExactFirstClashSaid : Prop := fnExactFirstClashRow.holds Try.pinned (OpenSpec.ofChange fnExactFirstClashSpec)

/-- ITS FALSE NEIGHBOUR: 'it returns false'. Refute it at one input. -/
def fnExactFirstClashWrong : ChangeSpec := { name := "fnExactFirstClash", fn := fun _ => fun
  | [d1, d2] => { results := [.lit (.bool false)], args := [d1, d2] }
  | _ => none }
def FnExactFirstClashWrongFalsely : Prop := fnExactFirstClashRow.holds Try.pinned (OpenSpec.ofChange fnExactFirstClashWrong)

/- THE SECOND FORM. 'bulk': how many values and letters a reading holds, each counted each time it is reached (what is shared counts as often as it is met; a slice's spare places count too). A statement '..UptoSaid' is the law's where the arguments, and the package variables that the reading takes, are together of bulk at most 1048576: NARROWER than '..Said'. Prove '..Said' where nothing that the law and all that it calls make is longer than what came in: it says more and counts as full. Else prove '..UptoSaid'. A law counts once. -/
mutual
def uptoBulk {H : Type} : DataW H → Nat
  | .lit (.string bytes) => bytes.length + 1
  | .lit _ => 1
  | .nil => 1
  | .ptr d => uptoBulk d + 1
  | .slice elems spare => uptoBulkAll elems + uptoBulkAll spare + 1
  | .agg parts => uptoBulkAll parts + 1
  | .iface _ d => uptoBulk d + 1
  | .map entries => uptoBulkEntries entries + 1
  | .held _ => 1
def uptoBulkAll {H : Type} : List (DataW H) → Nat
  | [] => 0
  | d :: r => uptoBulk d + uptoBulkAll r
def uptoBulkEntries {H : Type} : List (Lit × DataW H) → Nat
  | [] => 0
  | x :: r => uptoBulkEntry x + uptoBulkEntries r
def uptoBulkEntry {H : Type} : Lit × DataW H → Nat
  | (.string bytes, d) => bytes.length + uptoBulk d + 1
  | (_, d) => uptoBulk d + 1
 end
def uptoSmall : (H : Type) → List (DataW H) → Bool := fun _ ds => decide (uptoBulkAll ds ≤ 1048576)
def OpenSpec.upto (s : _root_.Go.ChangeSpec) : _root_.Go.OpenSpec := { _root_.Go.OpenSpec.ofChange s with cond := some uptoSmall }

/-- 'laws.FnExactEndOf', WHERE WHAT IT READS IS OF BULK AT MOST 1048576: true; the input reads as it did. -/
def fnExactEndOfUptoRow : OpenClaim := { program := "ytkblhnedillknaa", sum := "8b02c4e3b465699c1e63d0626487992c62e6a15b926d28fdce2f15de5d068c0d", func := "loop.example/g01405/laws.FnExactEndOf", spec := "fnExactEndOf", inPlace := ["internal/bytealg.IndexByteString"], unfollowed := true, recurses := true, plainKeys := false, apart := false, narrowed := true }
def FnExactEndOfUptoSaid : Prop := fnExactEndOfUptoRow.holds Try.pinned (OpenSpec.upto fnExactEndOfSpec)

/-- 'laws.FnExactSteepSteps', WHERE WHAT IT READS IS OF BULK AT MOST 1048576: true; the input reads as it did. -/
def fnExactSteepStepsUptoRow : OpenClaim := { program := "ytkblhnedillknaa", sum := "8b02c4e3b465699c1e63d0626487992c62e6a15b926d28fdce2f15de5d068c0d", func := "loop.example/g01405/laws.FnExactSteepSteps", spec := "fnExactSteepSteps", unfollowed := true, recurses := true, plainKeys := false, apart := false, narrowed := true }
def FnExactSteepStepsUptoSaid : Prop := fnExactSteepStepsUptoRow.holds Try.pinned (OpenSpec.upto fnExactSteepStepsSpec)

/-- 'laws.FnExactSpoolsFor', WHERE WHAT IT READS IS OF BULK AT MOST 1048576: true; the input reads as it did. -/
def fnExactSpoolsForUptoRow : OpenClaim := { program := "ytkblhnedillknaa", sum := "8b02c4e3b465699c1e63d0626487992c62e6a15b926d28fdce2f15de5d068c0d", func := "loop.example/g01405/laws.FnExactSpoolsFor", spec := "fnExactSpoolsFor", unfollowed := true, recurses := true, plainKeys := false, apart := false, narrowed := true }
def FnExactSpoolsForUptoSaid : Prop := fnExactSpoolsForUptoRow.holds Try.pinned (OpenSpec.upto fnExactSpoolsForSpec)

/-- 'laws.FnExactHillsIn', WHERE WHAT IT READS IS OF BULK AT MOST 1048576: true; the input reads as it did. -/
def fnExactHillsInUptoRow : OpenClaim := { program := "ytkblhnedillknaa", sum := "8b02c4e3b465699c1e63d0626487992c62e6a15b926d28fdce2f15de5d068c0d", func := "loop.example/g01405/laws.FnExactHillsIn", spec := "fnExactHillsIn", unfollowed := true, recurses := true, plainKeys := false, apart := false, narrowed := true }
def FnExactHillsInUptoSaid : Prop := fnExactHillsInUptoRow.holds Try.pinned (OpenSpec.upto fnExactHillsInSpec)

/-- 'laws.FnExactRingsOf', WHERE WHAT IT READS IS OF BULK AT MOST 1048576: true; the input reads as it did. -/
def fnExactRingsOfUptoRow : OpenClaim := { program := "ytkblhnedillknaa", sum := "8b02c4e3b465699c1e63d0626487992c62e6a15b926d28fdce2f15de5d068c0d", func := "loop.example/g01405/laws.FnExactRingsOf", spec := "fnExactRingsOf", unfollowed := true, recurses := true, plainKeys := false, apart := false, narrowed := true }
def FnExactRingsOfUptoSaid : Prop := fnExactRingsOfUptoRow.holds Try.pinned (OpenSpec.upto fnExactRingsOfSpec)

/-- 'laws.FnExactStepsFrom', WHERE WHAT IT READS IS OF BULK AT MOST 1048576: true; the input reads as it did. -/
def fnExactStepsFromUptoRow : OpenClaim := { program := "ytkblhnedillknaa", sum := "8b02c4e3b465699c1e63d0626487992c62e6a15b926d28fdce2f15de5d068c0d", func := "loop.example/g01405/laws.FnExactStepsFrom", spec := "fnExactStepsFrom", unfollowed := true, recurses := true, plainKeys := false, apart := false, narrowed := true }
def FnExactStepsFromUptoSaid : Prop := fnExactStepsFromUptoRow.holds Try.pinned (OpenSpec.upto fnExactStepsFromSpec)

/-- 'laws.FnExactMoveAll', WHERE WHAT IT READS IS OF BULK AT MOST 1048576: true; the input reads as it did. -/
def fnExactMoveAllUptoRow : OpenClaim := { program := "ytkblhnedillknaa", sum := "8b02c4e3b465699c1e63d0626487992c62e6a15b926d28fdce2f15de5d068c0d", func := "loop.example/g01405/laws.FnExactMoveAll", spec := "fnExactMoveAll", unfollowed := true, recurses := true, plainKeys := false, apart := false, narrowed := true }
def FnExactMoveAllUptoSaid : Prop := fnExactMoveAllUptoRow.holds Try.pinned (OpenSpec.upto fnExactMoveAllSpec)

/-- 'laws.FnExactHomeFrom', WHERE WHAT IT READS IS OF BULK AT MOST 1048576: true; the input reads as it did. -/
def fnExactHomeFromUptoRow : OpenClaim := { program := "ytkblhnedillknaa", sum := "8b02c4e3b465699c1e63d0626487992c62e6a15b926d28fdce2f15de5d068c0d", func := "loop.example/g01405/laws.FnExactHomeFrom", spec := "fnExactHomeFrom", unfollowed := true, recurses := true, plainKeys := false, apart := false, narrowed := true }
def FnExactHomeFromUptoSaid : Prop := fnExactHomeFromUptoRow.holds Try.pinned (OpenSpec.upto fnExactHomeFromSpec)

/-- 'laws.FnExactMoleOnce', WHERE WHAT IT READS IS OF BULK AT MOST 1048576: true; the input reads as it did. -/
def fnExactMoleOnceUptoRow : OpenClaim := { program := "ytkblhnedillknaa", sum := "8b02c4e3b465699c1e63d0626487992c62e6a15b926d28fdce2f15de5d068c0d", func := "loop.example/g01405/laws.FnExactMoleOnce", spec := "fnExactMoleOnce", unfollowed := true, recurses := true, plainKeys := false, apart := false, narrowed := true }
def FnExactMoleOnceUptoSaid : Prop := fnExactMoleOnceUptoRow.holds Try.pinned (OpenSpec.upto fnExactMoleOnceSpec)

/-- 'laws.FnExactCoveredBy', WHERE WHAT IT READS IS OF BULK AT MOST 1048576: true; the input reads as it did. -/
def fnExactCoveredByUptoRow : OpenClaim := { program := "ytkblhnedillknaa", sum := "8b02c4e3b465699c1e63d0626487992c62e6a15b926d28fdce2f15de5d068c0d", func := "loop.example/g01405/laws.FnExactCoveredBy", spec := "fnExactCoveredBy", unfollowed := true, recurses := true, plainKeys := false, apart := false, narrowed := true }
def FnExactCoveredByUptoSaid : Prop := fnExactCoveredByUptoRow.holds Try.pinned (OpenSpec.upto fnExactCoveredBySpec)

/-- 'laws.FnExactCoveredTwice', WHERE WHAT IT READS IS OF BULK AT MOST 1048576: true; the input reads as it did. -/
def fnExactCoveredTwiceUptoRow : OpenClaim := { program := "ytkblhnedillknaa", sum := "8b02c4e3b465699c1e63d0626487992c62e6a15b926d28fdce2f15de5d068c0d", func := "loop.example/g01405/laws.FnExactCoveredTwice", spec := "fnExactCoveredTwice", unfollowed := true, recurses := true, plainKeys := false, apart := false, narrowed := true }
def FnExactCoveredTwiceUptoSaid : Prop := fnExactCoveredTwiceUptoRow.holds Try.pinned (OpenSpec.upto fnExactCoveredTwiceSpec)

/-- 'laws.FnExactFirstClash', WHERE WHAT IT READS IS OF BULK AT MOST 1048576: true; the input reads as it did. -/
def fnExactFirstClashUptoRow : OpenClaim := { program := "ytkblhnedillknaa", sum := "8b02c4e3b465699c1e63d0626487992c62e6a15b926d28fdce2f15de5d068c0d", func := "loop.example/g01405/laws.FnExactFirstClash", spec := "fnExactFirstClash", unfollowed := true, recurses := true, plainKeys := false, apart := false, narrowed := true }
def FnExactFirstClashUptoSaid : Prop := fnExactFirstClashUptoRow.holds Try.pinned (OpenSpec.upto fnExactFirstClashSpec)

end Rows
end Go.Proofs.Ytkblhnedillknaa
