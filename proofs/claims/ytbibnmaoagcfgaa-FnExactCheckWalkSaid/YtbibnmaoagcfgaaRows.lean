/-
  No cell of these rows narrows 'for every input' (looked for: loops, veiled, ifaces, maps, wideKeys, modest, calm, conditions, laid).
  DERIVED. THE GIVEN ROWS OF THIS SEAT. 10 by the template 'for every input the law returns true; each argument reads behind the call as it read before'; 0 by the template 'total and deterministic' (their statements: YtbibnmaoagcfgaaTotals.lean).
  GIVEN WITH THE SEED: the statements are not yours to turn. If you find one false, say at which input.
  Laid BY PROGRAM, IN A SANDBOX (cutbox-rows.mjs): the forced cells as the released guide's own fill.sh prints them over the translation 88c67bd5628a8561… (all of the seat's roots in one cut). By AI agents, Wed Nov 11 2026. No macro, syntax, notation, axiom, sorry.
-/
import Derived.Test.YtbibnmaoagcfgaaChecked
import GoSem.Claim
import GoSem.ClaimJoined
import GoSem.ClaimMapViews
import Derived.JoinedTies
import Derived.KernelRfl
namespace Go.Proofs.Ytbibnmaoagcfgaa
/- THE CELL 'sum', in the pinned program and in every row, IS THE sha256 OF THE DUMP (.gsa) THAT YtbibnmaoagcfgaaProg.lean LOADS. Nothing in Lean hashes anything: it is a label: what it is worth is what the hold of that sum in a sandbox is worth. -/
noncomputable def Try.pinned : Pinned := { name := "ytbibnmaoagcfgaa", sum := "88c67bd5628a85619e4941c44a1f53ab37fae494e8ce1b55cdce3c14c1339e6b", checked := Try.checked }
namespace Rows
def none {H : Type} : Left H := { results := [], args := [] }

/-- 'laws.FnExactDifferIn': WHATEVER THE INPUT: true; the input reads as it did. -/
def fnExactDifferInSpec : ChangeSpec := { name := "fnExactDifferIn", fn := fun _ => fun
  | [d1, d2] => { results := [.lit (.bool true)], args := [d1, d2] }
  | _ => none }
def fnExactDifferInRow : OpenClaim := { program := "ytbibnmaoagcfgaa", sum := "88c67bd5628a85619e4941c44a1f53ab37fae494e8ce1b55cdce3c14c1339e6b", func := "loop.example/g01405/laws.FnExactDifferIn", spec := "fnExactDifferIn", unfollowed := true, recurses := true, plainKeys := false, apart := false }
def FnExactDifferInSaid : Prop := fnExactDifferInRow.holds Try.pinned (OpenSpec.ofChange fnExactDifferInSpec)

/-- ITS FALSE NEIGHBOUR: 'it returns false'. Refute it at one input. -/
def fnExactDifferInWrong : ChangeSpec := { name := "fnExactDifferIn", fn := fun _ => fun
  | [d1, d2] => { results := [.lit (.bool false)], args := [d1, d2] }
  | _ => none }
def FnExactDifferInWrongFalsely : Prop := fnExactDifferInRow.holds Try.pinned (OpenSpec.ofChange fnExactDifferInWrong)

/-- 'laws.FnExactCountPlans': WHATEVER THE INPUT: true; the input reads as it did. -/
def fnExactCountPlansSpec : ChangeSpec := { name := "fnExactCountPlans", fn := fun _ => fun
  | [d1, d2, d3, d4, d5] => { results := [.lit (.bool true)], args := [d1, d2, d3, d4, d5] }
  | _ => none }
def fnExactCountPlansRow : OpenClaim := { program := "ytbibnmaoagcfgaa", sum := "88c67bd5628a85619e4941c44a1f53ab37fae494e8ce1b55cdce3c14c1339e6b", func := "loop.example/g01405/laws.FnExactCountPlans", spec := "fnExactCountPlans", unfollowed := true, recurses := true, plainKeys := false, apart := false }
def FnExactCountPlansSaid : Prop := fnExactCountPlansRow.holds Try.pinned (OpenSpec.ofChange fnExactCountPlansSpec)

/-- ITS FALSE NEIGHBOUR: 'it returns false'. Refute it at one input. -/
def fnExactCountPlansWrong : ChangeSpec := { name := "fnExactCountPlans", fn := fun _ => fun
  | [d1, d2, d3, d4, d5] => { results := [.lit (.bool false)], args := [d1, d2, d3, d4, d5] }
  | _ => none }
def FnExactCountPlansWrongFalsely : Prop := fnExactCountPlansRow.holds Try.pinned (OpenSpec.ofChange fnExactCountPlansWrong)

/-- 'laws.FnExactCheckWalk': WHATEVER THE INPUT: true; the input reads as it did. -/
def fnExactCheckWalkSpec : ChangeSpec := { name := "fnExactCheckWalk", fn := fun _ => fun
  | [d1, d2] => { results := [.lit (.bool true)], args := [d1, d2] }
  | _ => none }
def fnExactCheckWalkRow : OpenClaim := { program := "ytbibnmaoagcfgaa", sum := "88c67bd5628a85619e4941c44a1f53ab37fae494e8ce1b55cdce3c14c1339e6b", func := "loop.example/g01405/laws.FnExactCheckWalk", spec := "fnExactCheckWalk", unfollowed := true, recurses := true, plainKeys := false, apart := false }
def FnExactCheckWalkSaid : Prop := fnExactCheckWalkRow.holds Try.pinned (OpenSpec.ofChange fnExactCheckWalkSpec)

/-- ITS FALSE NEIGHBOUR: 'it returns false'. Refute it at one input. -/
def fnExactCheckWalkWrong : ChangeSpec := { name := "fnExactCheckWalk", fn := fun _ => fun
  | [d1, d2] => { results := [.lit (.bool false)], args := [d1, d2] }
  | _ => none }
def FnExactCheckWalkWrongFalsely : Prop := fnExactCheckWalkRow.holds Try.pinned (OpenSpec.ofChange fnExactCheckWalkWrong)

/-- 'laws.FnExactSidesOf': WHATEVER THE INPUT: true; the input reads as it did. -/
def fnExactSidesOfSpec : ChangeSpec := { name := "fnExactSidesOf", fn := fun _ => fun
  | [d] => { results := [.lit (.bool true)], args := [d] }
  | _ => none }
def fnExactSidesOfRow : OpenClaim := { program := "ytbibnmaoagcfgaa", sum := "88c67bd5628a85619e4941c44a1f53ab37fae494e8ce1b55cdce3c14c1339e6b", func := "loop.example/g01405/laws.FnExactSidesOf", spec := "fnExactSidesOf", unfollowed := true, recurses := true, plainKeys := false, apart := false }
def FnExactSidesOfSaid : Prop := fnExactSidesOfRow.holds Try.pinned (OpenSpec.ofChange fnExactSidesOfSpec)

/-- ITS FALSE NEIGHBOUR: 'it returns false'. Refute it at one input. -/
def fnExactSidesOfWrong : ChangeSpec := { name := "fnExactSidesOf", fn := fun _ => fun
  | [d] => { results := [.lit (.bool false)], args := [d] }
  | _ => none }
def FnExactSidesOfWrongFalsely : Prop := fnExactSidesOfRow.holds Try.pinned (OpenSpec.ofChange fnExactSidesOfWrong)

/-- 'laws.FnExactEdgeLong': WHATEVER THE INPUT: true; the input reads as it did. -/
def fnExactEdgeLongSpec : ChangeSpec := { name := "fnExactEdgeLong", fn := fun _ => fun
  | [d] => { results := [.lit (.bool true)], args := [d] }
  | _ => none }
def fnExactEdgeLongRow : OpenClaim := { program := "ytbibnmaoagcfgaa", sum := "88c67bd5628a85619e4941c44a1f53ab37fae494e8ce1b55cdce3c14c1339e6b", func := "loop.example/g01405/laws.FnExactEdgeLong", spec := "fnExactEdgeLong", unfollowed := true, recurses := true, plainKeys := false, apart := false }
def FnExactEdgeLongSaid : Prop := fnExactEdgeLongRow.holds Try.pinned (OpenSpec.ofChange fnExactEdgeLongSpec)

/-- ITS FALSE NEIGHBOUR: 'it returns false'. Refute it at one input. -/
def fnExactEdgeLongWrong : ChangeSpec := { name := "fnExactEdgeLong", fn := fun _ => fun
  | [d] => { results := [.lit (.bool false)], args := [d] }
  | _ => none }
def FnExactEdgeLongWrongFalsely : Prop := fnExactEdgeLongRow.holds Try.pinned (OpenSpec.ofChange fnExactEdgeLongWrong)

/-- 'laws.FnRuns': WHATEVER THE INPUT: true; the input reads as it did. -/
def fnRunsSpec : ChangeSpec := { name := "fnRuns", fn := fun _ => fun
  | [d1, d2] => { results := [.lit (.bool true)], args := [d1, d2] }
  | _ => none }
def fnRunsRow : OpenClaim := { program := "ytbibnmaoagcfgaa", sum := "88c67bd5628a85619e4941c44a1f53ab37fae494e8ce1b55cdce3c14c1339e6b", func := "loop.example/g01405/laws.FnRuns", spec := "fnRuns", unfollowed := true, recurses := true, plainKeys := false, apart := false }
def FnRunsSaid : Prop := fnRunsRow.holds Try.pinned (OpenSpec.ofChange fnRunsSpec)

/-- ITS FALSE NEIGHBOUR: 'it returns false'. Refute it at one input. -/
def fnRunsWrong : ChangeSpec := { name := "fnRuns", fn := fun _ => fun
  | [d1, d2] => { results := [.lit (.bool false)], args := [d1, d2] }
  | _ => none }
def FnRunsWrongFalsely : Prop := fnRunsRow.holds Try.pinned (OpenSpec.ofChange fnRunsWrong)

/-- 'laws.FnExactMirrorLevels': WHATEVER THE INPUT: true; the input reads as it did. -/
def fnExactMirrorLevelsSpec : ChangeSpec := { name := "fnExactMirrorLevels", fn := fun _ => fun
  | [d1, d2] => { results := [.lit (.bool true)], args := [d1, d2] }
  | _ => none }
def fnExactMirrorLevelsRow : OpenClaim := { program := "ytbibnmaoagcfgaa", sum := "88c67bd5628a85619e4941c44a1f53ab37fae494e8ce1b55cdce3c14c1339e6b", func := "loop.example/g01405/laws.FnExactMirrorLevels", spec := "fnExactMirrorLevels", unfollowed := true, recurses := true, plainKeys := false, apart := false }
def FnExactMirrorLevelsSaid : Prop := fnExactMirrorLevelsRow.holds Try.pinned (OpenSpec.ofChange fnExactMirrorLevelsSpec)

/-- ITS FALSE NEIGHBOUR: 'it returns false'. Refute it at one input. -/
def fnExactMirrorLevelsWrong : ChangeSpec := { name := "fnExactMirrorLevels", fn := fun _ => fun
  | [d1, d2] => { results := [.lit (.bool false)], args := [d1, d2] }
  | _ => none }
def FnExactMirrorLevelsWrongFalsely : Prop := fnExactMirrorLevelsRow.holds Try.pinned (OpenSpec.ofChange fnExactMirrorLevelsWrong)

/-- 'laws.FnExactCellsOf': WHATEVER THE INPUT: true; the input reads as it did. -/
def fnExactCellsOfSpec : ChangeSpec := { name := "fnExactCellsOf", fn := fun _ => fun
  | [d1, d2] => { results := [.lit (.bool true)], args := [d1, d2] }
  | _ => none }
def fnExactCellsOfRow : OpenClaim := { program := "ytbibnmaoagcfgaa", sum := "88c67bd5628a85619e4941c44a1f53ab37fae494e8ce1b55cdce3c14c1339e6b", func := "loop.example/g01405/laws.FnExactCellsOf", spec := "fnExactCellsOf", unfollowed := true, recurses := true, plainKeys := false, apart := false }
def FnExactCellsOfSaid : Prop := fnExactCellsOfRow.holds Try.pinned (OpenSpec.ofChange fnExactCellsOfSpec)

/-- ITS FALSE NEIGHBOUR: 'it returns false'. Refute it at one input. -/
def fnExactCellsOfWrong : ChangeSpec := { name := "fnExactCellsOf", fn := fun _ => fun
  | [d1, d2] => { results := [.lit (.bool false)], args := [d1, d2] }
  | _ => none }
def FnExactCellsOfWrongFalsely : Prop := fnExactCellsOfRow.holds Try.pinned (OpenSpec.ofChange fnExactCellsOfWrong)

/-- 'laws.FnExactRollRow': WHATEVER THE INPUT: true; the input reads as it did. -/
def fnExactRollRowSpec : ChangeSpec := { name := "fnExactRollRow", fn := fun _ => fun
  | [d1, d2, d3] => { results := [.lit (.bool true)], args := [d1, d2, d3] }
  | _ => none }
def fnExactRollRowRow : OpenClaim := { program := "ytbibnmaoagcfgaa", sum := "88c67bd5628a85619e4941c44a1f53ab37fae494e8ce1b55cdce3c14c1339e6b", func := "loop.example/g01405/laws.FnExactRollRow", spec := "fnExactRollRow", unfollowed := true, recurses := true, plainKeys := false, apart := false }
def FnExactRollRowSaid : Prop := fnExactRollRowRow.holds Try.pinned (OpenSpec.ofChange fnExactRollRowSpec)

/-- ITS FALSE NEIGHBOUR: 'it returns false'. Refute it at one input. -/
def fnExactRollRowWrong : ChangeSpec := { name := "fnExactRollRow", fn := fun _ => fun
  | [d1, d2, d3] => { results := [.lit (.bool false)], args := [d1, d2, d3] }
  | _ => none }
def FnExactRollRowWrongFalsely : Prop := fnExactRollRowRow.holds Try.pinned (OpenSpec.ofChange fnExactRollRowWrong)

/-- 'laws.FnExactStripeOf': WHATEVER THE INPUT: true; the input reads as it did. -/
def fnExactStripeOfSpec : ChangeSpec := { name := "fnExactStripeOf", fn := fun _ => fun
  | [d1, d2, d3] => { results := [.lit (.bool true)], args := [d1, d2, d3] }
  | _ => none }
def fnExactStripeOfRow : OpenClaim := { program := "ytbibnmaoagcfgaa", sum := "88c67bd5628a85619e4941c44a1f53ab37fae494e8ce1b55cdce3c14c1339e6b", func := "loop.example/g01405/laws.FnExactStripeOf", spec := "fnExactStripeOf", unfollowed := true, recurses := true, plainKeys := false, apart := false }
def FnExactStripeOfSaid : Prop := fnExactStripeOfRow.holds Try.pinned (OpenSpec.ofChange fnExactStripeOfSpec)

/-- ITS FALSE NEIGHBOUR: 'it returns false'. Refute it at one input. -/
def fnExactStripeOfWrong : ChangeSpec := { name := "fnExactStripeOf", fn := fun _ => fun
  | [d1, d2, d3] => { results := [.lit (.bool false)], args := [d1, d2, d3] }
  | _ => none }
def FnExactStripeOfWrongFalsely : Prop := fnExactStripeOfRow.holds Try.pinned (OpenSpec.ofChange fnExactStripeOfWrong)

/- THE SECOND FORM. 'bulk': how many values and letters a reading holds, each counted each time it is reached (what is shared counts as often as it is met; a slice's spare places count too). A statement '..UptoSaid' is the law's where the arguments, and the package variables that the reading takes, are together of bulk at most 1048576: NARROWER than '..Said'. Prove '..Said' where nothing that the law and all that it calls make is longer than what came in: it says more and counts as full. Else prove '..UptoSaid'. A law counts once. -/
mutual
def uptoBulk {H : Type} : DataW H → Nat
  | .lit (.string bytes) => bytes.length + 1
  | .lit _ => 1
  | .nil => 1
  | .ptr d => uptoBulk d + 1
  | .slice elems spare => uptoBulkAll elems + uptoBulkAll spare + 1
  | .agg parts => uptoBulkAll parts + 1
  | .iface _ d => uptoBulk d + 1
  | .map entries => uptoBulkEntries entries + 1
  | .held _ => 1
def uptoBulkAll {H : Type} : List (DataW H) → Nat
  | [] => 0
  | d :: r => uptoBulk d + uptoBulkAll r
def uptoBulkEntries {H : Type} : List (Lit × DataW H) → Nat
  | [] => 0
  | x :: r => uptoBulkEntry x + uptoBulkEntries r
def uptoBulkEntry {H : Type} : Lit × DataW H → Nat
  | (.string bytes, d) => bytes.length + uptoBulk d + 1
  | (_, d) => uptoBulk d + 1
 end
def uptoSmall : (H : Type) → List (DataW H) → Bool := fun _ ds => decide (uptoBulkAll ds ≤ 1048576)
def OpenSpec.upto (s : _root_.Go.ChangeSpec) : _root_.Go.OpenSpec := { _root_.Go.OpenSpec.ofChange s with cond := some uptoSmall }

/-- 'laws.FnExactDifferIn', WHERE WHAT IT READS IS OF BULK AT MOST 1048576: true; the input reads as it did. -/
def fnExactDifferInUptoRow : OpenClaim := { program := "ytbibnmaoagcfgaa", sum := "88c67bd5628a85619e4941c44a1f53ab37fae494e8ce1b55cdce3c14c1339e6b", func := "loop.example/g01405/laws.FnExactDifferIn", spec := "fnExactDifferIn", unfollowed := true, recurses := true, plainKeys := false, apart := false, narrowed := true }
def FnExactDifferInUptoSaid : Prop := fnExactDifferInUptoRow.holds Try.pinned (OpenSpec.upto fnExactDifferInSpec)

/-- 'laws.FnExactCountPlans', WHERE WHAT IT READS IS OF BULK AT MOST 1048576: true; the input reads as it did. -/
def fnExactCountPlansUptoRow : OpenClaim := { program := "ytbibnmaoagcfgaa", sum := "88c67bd5628a85619e4941c44a1f53ab37fae494e8ce1b55cdce3c14c1339e6b", func := "loop.example/g01405/laws.FnExactCountPlans", spec := "fnExactCountPlans", unfollowed := true, recurses := true, plainKeys := false, apart := false, narrowed := true }
def FnExactCountPlansUptoSaid : Prop := fnExactCountPlansUptoRow.holds Try.pinned (OpenSpec.upto fnExactCountPlansSpec)

/-- 'laws.FnExactCheckWalk', WHERE WHAT IT READS IS OF BULK AT MOST 1048576: true; the input reads as it did. -/
def fnExactCheckWalkUptoRow : OpenClaim := { program := "ytbibnmaoagcfgaa", sum := "88c67bd5628a85619e4941c44a1f53ab37fae494e8ce1b55cdce3c14c1339e6b", func := "loop.example/g01405/laws.FnExactCheckWalk", spec := "fnExactCheckWalk", unfollowed := true, recurses := true, plainKeys := false, apart := false, narrowed := true }
def FnExactCheckWalkUptoSaid : Prop := fnExactCheckWalkUptoRow.holds Try.pinned (OpenSpec.upto fnExactCheckWalkSpec)

/-- 'laws.FnExactSidesOf', WHERE WHAT IT READS IS OF BULK AT MOST 1048576: true; the input reads as it did. -/
def fnExactSidesOfUptoRow : OpenClaim := { program := "ytbibnmaoagcfgaa", sum := "88c67bd5628a85619e4941c44a1f53ab37fae494e8ce1b55cdce3c14c1339e6b", func := "loop.example/g01405/laws.FnExactSidesOf", spec := "fnExactSidesOf", unfollowed := true, recurses := true, plainKeys := false, apart := false, narrowed := true }
def FnExactSidesOfUptoSaid : Prop := fnExactSidesOfUptoRow.holds Try.pinned (OpenSpec.upto fnExactSidesOfSpec)

/-- 'laws.FnExactEdgeLong', WHERE WHAT IT READS IS OF BULK AT MOST 1048576: true; the input reads as it did. -/
def fnExactEdgeLongUptoRow : OpenClaim := { program := "ytbibnmaoagcfgaa", sum := "88c67bd5628a85619e4941c44a1f53ab37fae494e8ce1b55cdce3c14c1339e6b", func := "loop.example/g01405/laws.FnExactEdgeLong", spec := "fnExactEdgeLong", unfollowed := true, recurses := true, plainKeys := false, apart := false, narrowed := true }
def FnExactEdgeLongUptoSaid : Prop := fnExactEdgeLongUptoRow.holds Try.pinned (OpenSpec.upto fnExactEdgeLongSpec)

/-- 'laws.FnRuns', WHERE WHAT IT READS IS OF BULK AT MOST 1048576: true; the input reads as it did. -/
def fnRunsUptoRow : OpenClaim := { program := "ytbibnmaoagcfgaa", sum := "88c67bd5628a85619e4941c44a1f53ab37fae494e8ce1b55cdce3c14c1339e6b", func := "loop.example/g01405/laws.FnRuns", spec := "fnRuns", unfollowed := true, recurses := true, plainKeys := false, apart := false, narrowed := true }
def FnRunsUptoSaid : Prop := fnRunsUptoRow.holds Try.pinned (OpenSpec.upto fnRunsSpec)

/-- 'laws.FnExactMirrorLevels', WHERE WHAT IT READS IS OF BULK AT MOST 1048576: true; the input reads as it did. -/
def fnExactMirrorLevelsUptoRow : OpenClaim := { program := "ytbibnmaoagcfgaa", sum := "88c67bd5628a85619e4941c44a1f53ab37fae494e8ce1b55cdce3c14c1339e6b", func := "loop.example/g01405/laws.FnExactMirrorLevels", spec := "fnExactMirrorLevels", unfollowed := true, recurses := true, plainKeys := false, apart := false, narrowed := true }
def FnExactMirrorLevelsUptoSaid : Prop := fnExactMirrorLevelsUptoRow.holds Try.pinned (OpenSpec.upto fnExactMirrorLevelsSpec)

/-- 'laws.FnExactCellsOf', WHERE WHAT IT READS IS OF BULK AT MOST 1048576: true; the input reads as it did. -/
def fnExactCellsOfUptoRow : OpenClaim := { program := "ytbibnmaoagcfgaa", sum := "88c67bd5628a85619e4941c44a1f53ab37fae494e8ce1b55cdce3c14c1339e6b", func := "loop.example/g01405/laws.FnExactCellsOf", spec := "fnExactCellsOf", unfollowed := true, recurses := true, plainKeys := false, apart := false, narrowed := true }
def FnExactCellsOfUptoSaid : Prop := fnExactCellsOfUptoRow.holds Try.pinned (OpenSpec.upto fnExactCellsOfSpec)

/-- 'laws.FnExactRollRow', WHERE WHAT IT READS IS OF BULK AT MOST 1048576: true; the input reads as it did. -/
def fnExactRollRowUptoRow : OpenClaim := { program := "ytbibnmaoagcfgaa", sum := "88c67bd5628a85619e4941c44a1f53ab37fae494e8ce1b55cdce3c14c1339e6b", func := "loop.example/g01405/laws.FnExactRollRow", spec := "fnExactRollRow", unfollowed := true, recurses := true, plainKeys := false, apart := false, narrowed := true }
def FnExactRollRowUptoSaid : Prop := fnExactRollRowUptoRow.holds Try.pinned (OpenSpec.upto fnExactRollRowSpec)

/-- 'laws.FnExactStripeOf', WHERE WHAT IT READS IS OF BULK AT MOST 1048576: true; the input reads as it did. -/
def fnExactStripeOfUptoRow : OpenClaim := { program := "ytbibnmaoagcfgaa", sum := "88c67bd5628a85619e4941c44a1f53ab37fae494e8ce1b55cdce3c14c1339e6b", func := "loop.example/g01405/laws.FnExactStripeOf", spec := "fnExactStripeOf", unfollowed := true, recurses := true, plainKeys := false, apart := false, narrowed := true }
def FnExactStripeOfUptoSaid : Prop := fnExactStripeOfUptoRow.holds Try.pinned (OpenSpec.upto fnExactStripeOfSpec)

end Rows
end Go.Proofs.Ytbibnmaoagcfgaa
