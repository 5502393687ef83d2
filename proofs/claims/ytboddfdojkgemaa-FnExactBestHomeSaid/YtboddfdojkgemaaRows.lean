/-
  No cell of these rows narrows 'for every input' (looked for: loops, veiled, ifaces, maps, wideKeys, modest, calm, conditions, laid).
  DERIVED. THE GIVEN ROWS OF THIS SEAT. 3 by the template 'for every input the law returns true; each argument reads behind the call as it read before'; 0 by the template 'total and deterministic' (their statements: YtboddfdojkgemaaTotals.lean).
  GIVEN WITH THE SEED: the statements are not yours to turn. If you find one false, say at which input.
  Laid BY PROGRAM, IN A SANDBOX (cutbox-rows.mjs): the forced cells as the released guide's own fill.sh prints them over the translation d1f661cc1185ef3a… (all of the seat's roots in one cut). By AI agents, Wed Nov 11 2026. No macro, syntax, notation, axiom, sorry.
-/
import Derived.Test.YtboddfdojkgemaaChecked
import GoSem.Claim
import GoSem.ClaimJoined
import GoSem.ClaimMapViews
import Derived.JoinedTies
import Derived.KernelRfl
namespace Go.Proofs.Ytboddfdojkgemaa
/- THE CELL 'sum', in the pinned program and in every row, IS THE sha256 OF THE DUMP (.gsa) THAT YtboddfdojkgemaaProg.lean LOADS. Nothing in Lean hashes anything: it is a label: what it is worth is what the hold of that sum in a sandbox is worth. -/
noncomputable def Try.pinned : Pinned := { name := "ytboddfdojkgemaa", sum := "d1f661cc1185ef3a3ab5445b3b87b593b69d298703c0dfcc635ab5eaeaf79116", checked := Try.checked }
namespace Rows
def none {H : Type} : Left H := { results := [], args := [] }

/-- 'laws.FnExactShortestWhole': WHATEVER THE INPUT: true; the input reads as it did. -/
def fnExactShortestWholeSpec : ChangeSpec := { name := "fnExactShortestWhole", fn := fun _ => fun
  | [d1, d2] => { results := [.lit (.bool true)], args := [d1, d2] }
  | _ => none }
def fnExactShortestWholeRow : OpenClaim := { program := "ytboddfdojkgemaa", sum := "d1f661cc1185ef3a3ab5445b3b87b593b69d298703c0dfcc635ab5eaeaf79116", func := "loop.example/g01405/laws.FnExactShortestWhole", spec := "fnExactShortestWhole", inPlace := ["internal/bytealg.IndexByteString"], unfollowed := true, recurses := true, plainKeys := false, apart := false }
def FnExactShortestWholeSaid : Prop := fnExactShortestWholeRow.holds Try.pinned (OpenSpec.ofChange fnExactShortestWholeSpec)

/-- ITS FALSE NEIGHBOUR: 'it returns false'. Refute it at one input. -/
def fnExactShortestWholeWrong : ChangeSpec := { name := "fnExactShortestWhole", fn := fun _ => fun
  | [d1, d2] => { results := [.lit (.bool false)], args := [d1, d2] }
  | _ => none }
def FnExactShortestWholeWrongFalsely : Prop := fnExactShortestWholeRow.holds Try.pinned (OpenSpec.ofChange fnExactShortestWholeWrong)

/-- 'laws.FnExactPiecesOf': WHATEVER THE INPUT: true; the input reads as it did. -/
def fnExactPiecesOfSpec : ChangeSpec := { name := "fnExactPiecesOf", fn := fun _ => fun
  | [d] => { results := [.lit (.bool true)], args := [d] }
  | _ => none }
def fnExactPiecesOfRow : OpenClaim := { program := "ytboddfdojkgemaa", sum := "d1f661cc1185ef3a3ab5445b3b87b593b69d298703c0dfcc635ab5eaeaf79116", func := "loop.example/g01405/laws.FnExactPiecesOf", spec := "fnExactPiecesOf", unfollowed := true, recurses := true, plainKeys := false, apart := false }
def FnExactPiecesOfSaid : Prop := fnExactPiecesOfRow.holds Try.pinned (OpenSpec.ofChange fnExactPiecesOfSpec)

/-- ITS FALSE NEIGHBOUR: 'it returns false'. Refute it at one input. -/
def fnExactPiecesOfWrong : ChangeSpec := { name := "fnExactPiecesOf", fn := fun _ => fun
  | [d] => { results := [.lit (.bool false)], args := [d] }
  | _ => none }
def FnExactPiecesOfWrongFalsely : Prop := fnExactPiecesOfRow.holds Try.pinned (OpenSpec.ofChange fnExactPiecesOfWrong)

/-- 'laws.FnExactBestHome': WHATEVER THE INPUT: true; the input reads as it did. -/
def fnExactBestHomeSpec : ChangeSpec := { name := "fnExactBestHome", fn := fun _ => fun
  | [d] => { results := [.lit (.bool true)], args := [d] }
  | _ => none }
def fnExactBestHomeRow : OpenClaim := { program := "ytboddfdojkgemaa", sum := "d1f661cc1185ef3a3ab5445b3b87b593b69d298703c0dfcc635ab5eaeaf79116", func := "loop.example/g01405/laws.FnExactBestHome", spec := "fnExactBestHome", unfollowed := true, recurses := true, plainKeys := false, apart := false }
def FnExactBestHomeSaid : Prop := fnExactBestHomeRow.holds Try.pinned (OpenSpec.ofChange fnExactBestHomeSpec)

/-- ITS FALSE NEIGHBOUR: 'it returns false'. Refute it at one input. -/
def fnExactBestHomeWrong : ChangeSpec := { name := "fnExactBestHome", fn := fun _ => fun
  | [d] => { results := [.lit (.bool false)], args := [d] }
  | _ => none }
def FnExactBestHomeWrongFalsely : Prop := fnExactBestHomeRow.holds Try.pinned (OpenSpec.ofChange fnExactBestHomeWrong)

/- THE SECOND FORM. 'bulk': how many values and letters a reading holds, each counted each time it is reached (what is shared counts as often as it is met; a slice's spare places count too). A statement '..UptoSaid' is the law's where the arguments, and the package variables that the reading takes, are together of bulk at most 1048576: NARROWER than '..Said'. Prove '..Said' where nothing that the law and all that it calls make is longer than what came in: it says more and counts as full. Else prove '..UptoSaid'. A law counts once. -/
mutual
def uptoBulk {H : Type} : DataW H → Nat
  | .lit (.string bytes) => bytes.length + 1
  | .lit _ => 1
  | .nil => 1
  | .ptr d => uptoBulk d + 1
  | .slice elems spare => uptoBulkAll elems + uptoBulkAll spare + 1
  | .agg parts => uptoBulkAll parts + 1
  | .iface _ d => uptoBulk d + 1
  | .map entries => uptoBulkEntries entries + 1
  | .held _ => 1
def uptoBulkAll {H : Type} : List (DataW H) → Nat
  | [] => 0
  | d :: r => uptoBulk d + uptoBulkAll r
def uptoBulkEntries {H : Type} : List (Lit × DataW H) → Nat
  | [] => 0
  | x :: r => uptoBulkEntry x + uptoBulkEntries r
def uptoBulkEntry {H : Type} : Lit × DataW H → Nat
  | (.string bytes, d) => bytes.length + uptoBulk d + 1
  | (_, d) => uptoBulk d + 1
 end
def uptoSmall : (H : Type) → List (DataW H) → Bool := fun _ ds => decide (uptoBulkAll ds ≤ 1048576)
def OpenSpec.upto (s : _root_.Go.ChangeSpec) : _root_.Go.OpenSpec := { _root_.Go.OpenSpec.ofChange s with cond := some uptoSmall }

/-- 'laws.FnExactShortestWhole', WHERE WHAT IT READS IS OF BULK AT MOST 1048576: true; the input reads as it did. -/
def fnExactShortestWholeUptoRow : OpenClaim := { program := "ytboddfdojkgemaa", sum := "d1f661cc1185ef3a3ab5445b3b87b593b69d298703c0dfcc635ab5eaeaf79116", func := "loop.example/g01405/laws.FnExactShortestWhole", spec := "fnExactShortestWhole", inPlace := ["internal/bytealg.IndexByteString"], unfollowed := true, recurses := true, plainKeys := false, apart := false, narrowed := true }
def FnExactShortestWholeUptoSaid : Prop := fnExactShortestWholeUptoRow.holds Try.pinned (OpenSpec.upto fnExactShortestWholeSpec)

/-- 'laws.FnExactPiecesOf', WHERE WHAT IT READS IS OF BULK AT MOST 1048576: true; the input reads as it did. -/
def fnExactPiecesOfUptoRow : OpenClaim := { program := "ytboddfdojkgemaa", sum := "d1f661cc1185ef3a3ab5445b3b87b593b69d298703c0dfcc635ab5eaeaf79116", func := "loop.example/g01405/laws.FnExactPiecesOf", spec := "fnExactPiecesOf", unfollowed := true, recurses := true, plainKeys := false, apart := false, narrowed := true }
def FnExactPiecesOfUptoSaid : Prop := fnExactPiecesOfUptoRow.holds Try.pinned (OpenSpec.upto fnExactPiecesOfSpec)

/-- 'laws.FnExactBestHome', WHERE WHAT IT READS IS OF BULK AT MOST 1048576: true; the input reads as it did. -/
def fnExactBestHomeUptoRow : OpenClaim := { program := "ytboddfdojkgemaa", sum := "d1f661cc1185ef3a3ab5445b3b87b593b69d298703c0dfcc635ab5eaeaf79116", func := "loop.example/g01405/laws.FnExactBestHome", spec := "fnExactBestHome", unfollowed := true, recurses := true, plainKeys := false, apart := false, narrowed := true }
def FnExactBestHomeUptoSaid : Prop := fnExactBestHomeUptoRow.holds Try.pinned (OpenSpec.upto fnExactBestHomeSpec)

end Rows
end Go.Proofs.Ytboddfdojkgemaa
