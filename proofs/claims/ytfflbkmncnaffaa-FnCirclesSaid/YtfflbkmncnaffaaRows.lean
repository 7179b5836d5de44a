/-
  No cell of these rows narrows 'for every input' (looked for: loops, veiled, ifaces, maps, wideKeys, modest, calm, conditions, laid).
  DERIVED. THE GIVEN ROWS OF THIS SEAT. 11 by the template 'for every input the law returns true; each argument reads behind the call as it read before'; 0 by the template 'total and deterministic' (their statements: YtfflbkmncnaffaaTotals.lean).
  GIVEN WITH THE SEED: the statements are not yours to turn. If you find one false, say at which input.
  Laid BY PROGRAM, IN A SANDBOX (cutbox-rows.mjs): the forced cells as the released guide's own fill.sh prints them over the translation f09f2dc6c2ca25bb… (all of the seat's roots in one cut). By AI agents, Wed Nov 11 2026. No macro, syntax, notation, axiom, sorry.
-/
import Derived.Test.YtfflbkmncnaffaaChecked
import GoSem.Claim
import GoSem.ClaimJoined
import GoSem.ClaimMapViews
import Derived.JoinedTies
import Derived.KernelRfl
namespace Go.Proofs.Ytfflbkmncnaffaa
/- THE CELL 'sum', in the pinned program and in every row, IS THE sha256 OF THE DUMP (.gsa) THAT YtfflbkmncnaffaaProg.lean LOADS. Nothing in Lean hashes anything: it is a label: what it is worth is what the hold of that sum in a sandbox is worth. -/
noncomputable def Try.pinned : Pinned := { name := "ytfflbkmncnaffaa", sum := "f09f2dc6c2ca25bb7030730888e1c9bb8e68e91c32995fd77476b5e5cb2e13b0", checked := Try.checked }
namespace Rows
def none {H : Type} : Left H := { results := [], args := [] }

/-- 'laws.FnExactIsInCircle': WHATEVER THE INPUT: true; the input reads as it did. -/
def fnExactIsInCircleSpec : ChangeSpec := { name := "fnExactIsInCircle", fn := fun _ => fun
  | [d1, d2, d3, d4] => { results := [.lit (.bool true)], args := [d1, d2, d3, d4] }
  | _ => none }
def fnExactIsInCircleRow : OpenClaim := { program := "ytfflbkmncnaffaa", sum := "f09f2dc6c2ca25bb7030730888e1c9bb8e68e91c32995fd77476b5e5cb2e13b0", func := "loop.example/g01031/laws.FnExactIsInCircle", spec := "fnExactIsInCircle", apart := false }
def FnExactIsInCircleSaid : Prop := fnExactIsInCircleRow.holds Try.pinned (OpenSpec.ofChange fnExactIsInCircleSpec)

/-- ITS FALSE NEIGHBOUR: 'it returns false'. Refute it at one input. -/
def fnExactIsInCircleWrong : ChangeSpec := { name := "fnExactIsInCircle", fn := fun _ => fun
  | [d1, d2, d3, d4] => { results := [.lit (.bool false)], args := [d1, d2, d3, d4] }
  | _ => none }
def FnExactIsInCircleWrongFalsely : Prop := fnExactIsInCircleRow.holds Try.pinned (OpenSpec.ofChange fnExactIsInCircleWrong)

/-- 'laws.FnMeshes': WHATEVER THE INPUT: true; the input reads as it did. -/
def fnMeshesSpec : ChangeSpec := { name := "fnMeshes", fn := fun _ => fun
  | [d] => { results := [.lit (.bool true)], args := [d] }
  | _ => none }
def fnMeshesRow : OpenClaim := { program := "ytfflbkmncnaffaa", sum := "f09f2dc6c2ca25bb7030730888e1c9bb8e68e91c32995fd77476b5e5cb2e13b0", func := "loop.example/g01031/laws.FnMeshes", spec := "fnMeshes", unfollowed := true, recurses := true, apart := false }
def FnMeshesSaid : Prop := fnMeshesRow.holds Try.pinned (OpenSpec.ofChange fnMeshesSpec)

/-- ITS FALSE NEIGHBOUR: 'it returns false'. Refute it at one input. -/
def fnMeshesWrong : ChangeSpec := { name := "fnMeshes", fn := fun _ => fun
  | [d] => { results := [.lit (.bool false)], args := [d] }
  | _ => none }
def FnMeshesWrongFalsely : Prop := fnMeshesRow.holds Try.pinned (OpenSpec.ofChange fnMeshesWrong)

/-- 'laws.FnCircles': WHATEVER THE INPUT: true; the input reads as it did. -/
def fnCirclesSpec : ChangeSpec := { name := "fnCircles", fn := fun _ => fun
  | [d] => { results := [.lit (.bool true)], args := [d] }
  | _ => none }
def fnCirclesRow : OpenClaim := { program := "ytfflbkmncnaffaa", sum := "f09f2dc6c2ca25bb7030730888e1c9bb8e68e91c32995fd77476b5e5cb2e13b0", func := "loop.example/g01031/laws.FnCircles", spec := "fnCircles", unfollowed := true, recurses := true, apart := false }
def FnCirclesSaid : Prop := fnCirclesRow.holds Try.pinned (OpenSpec.ofChange fnCirclesSpec)

/-- ITS FALSE NEIGHBOUR: 'it returns false'. Refute it at one input. -/
def fnCirclesWrong : ChangeSpec := { name := "fnCircles", fn := fun _ => fun
  | [d] => { results := [.lit (.bool false)], args := [d] }
  | _ => none }
def FnCirclesWrongFalsely : Prop := fnCirclesRow.holds Try.pinned (OpenSpec.ofChange fnCirclesWrong)

/-- 'laws.FnExactIsMesh': WHATEVER THE INPUT: true; the input reads as it did. -/
def fnExactIsMeshSpec : ChangeSpec := { name := "fnExactIsMesh", fn := fun _ => fun
  | [d1, d2] => { results := [.lit (.bool true)], args := [d1, d2] }
  | _ => none }
def fnExactIsMeshRow : OpenClaim := { program := "ytfflbkmncnaffaa", sum := "f09f2dc6c2ca25bb7030730888e1c9bb8e68e91c32995fd77476b5e5cb2e13b0", func := "loop.example/g01031/laws.FnExactIsMesh", spec := "fnExactIsMesh", apart := false }
def FnExactIsMeshSaid : Prop := fnExactIsMeshRow.holds Try.pinned (OpenSpec.ofChange fnExactIsMeshSpec)

/-- ITS FALSE NEIGHBOUR: 'it returns false'. Refute it at one input. -/
def fnExactIsMeshWrong : ChangeSpec := { name := "fnExactIsMesh", fn := fun _ => fun
  | [d1, d2] => { results := [.lit (.bool false)], args := [d1, d2] }
  | _ => none }
def FnExactIsMeshWrongFalsely : Prop := fnExactIsMeshRow.holds Try.pinned (OpenSpec.ofChange fnExactIsMeshWrong)

/-- 'laws.FnExactAreaOf': WHATEVER THE INPUT: true; the input reads as it did. -/
def fnExactAreaOfSpec : ChangeSpec := { name := "fnExactAreaOf", fn := fun _ => fun
  | [d1, d2] => { results := [.lit (.bool true)], args := [d1, d2] }
  | _ => none }
def fnExactAreaOfRow : OpenClaim := { program := "ytfflbkmncnaffaa", sum := "f09f2dc6c2ca25bb7030730888e1c9bb8e68e91c32995fd77476b5e5cb2e13b0", func := "loop.example/g01031/laws.FnExactAreaOf", spec := "fnExactAreaOf", apart := false }
def FnExactAreaOfSaid : Prop := fnExactAreaOfRow.holds Try.pinned (OpenSpec.ofChange fnExactAreaOfSpec)

/-- ITS FALSE NEIGHBOUR: 'it returns false'. Refute it at one input. -/
def fnExactAreaOfWrong : ChangeSpec := { name := "fnExactAreaOf", fn := fun _ => fun
  | [d1, d2] => { results := [.lit (.bool false)], args := [d1, d2] }
  | _ => none }
def FnExactAreaOfWrongFalsely : Prop := fnExactAreaOfRow.holds Try.pinned (OpenSpec.ofChange fnExactAreaOfWrong)

/-- 'laws.FnExactTriangleAt': WHATEVER THE INPUT: true; the input reads as it did. -/
def fnExactTriangleAtSpec : ChangeSpec := { name := "fnExactTriangleAt", fn := fun _ => fun
  | [d1, d2, d3] => { results := [.lit (.bool true)], args := [d1, d2, d3] }
  | _ => none }
def fnExactTriangleAtRow : OpenClaim := { program := "ytfflbkmncnaffaa", sum := "f09f2dc6c2ca25bb7030730888e1c9bb8e68e91c32995fd77476b5e5cb2e13b0", func := "loop.example/g01031/laws.FnExactTriangleAt", spec := "fnExactTriangleAt", unfollowed := true, recurses := true, apart := false }
def FnExactTriangleAtSaid : Prop := fnExactTriangleAtRow.holds Try.pinned (OpenSpec.ofChange fnExactTriangleAtSpec)

/-- ITS FALSE NEIGHBOUR: 'it returns false'. Refute it at one input. -/
def fnExactTriangleAtWrong : ChangeSpec := { name := "fnExactTriangleAt", fn := fun _ => fun
  | [d1, d2, d3] => { results := [.lit (.bool false)], args := [d1, d2, d3] }
  | _ => none }
def FnExactTriangleAtWrongFalsely : Prop := fnExactTriangleAtRow.holds Try.pinned (OpenSpec.ofChange fnExactTriangleAtWrong)

/-- 'laws.FnExactShoalestCorner': WHATEVER THE INPUT: true; the input reads as it did. -/
def fnExactShoalestCornerSpec : ChangeSpec := { name := "fnExactShoalestCorner", fn := fun _ => fun
  | [d1, d2, d3, d4] => { results := [.lit (.bool true)], args := [d1, d2, d3, d4] }
  | _ => none }
def fnExactShoalestCornerRow : OpenClaim := { program := "ytfflbkmncnaffaa", sum := "f09f2dc6c2ca25bb7030730888e1c9bb8e68e91c32995fd77476b5e5cb2e13b0", func := "loop.example/g01031/laws.FnExactShoalestCorner", spec := "fnExactShoalestCorner", unfollowed := true, recurses := true, apart := false }
def FnExactShoalestCornerSaid : Prop := fnExactShoalestCornerRow.holds Try.pinned (OpenSpec.ofChange fnExactShoalestCornerSpec)

/-- ITS FALSE NEIGHBOUR: 'it returns false'. Refute it at one input. -/
def fnExactShoalestCornerWrong : ChangeSpec := { name := "fnExactShoalestCorner", fn := fun _ => fun
  | [d1, d2, d3, d4] => { results := [.lit (.bool false)], args := [d1, d2, d3, d4] }
  | _ => none }
def FnExactShoalestCornerWrongFalsely : Prop := fnExactShoalestCornerRow.holds Try.pinned (OpenSpec.ofChange fnExactShoalestCornerWrong)

/-- 'laws.FnExactNeighborsOf': WHATEVER THE INPUT: true; the input reads as it did. -/
def fnExactNeighborsOfSpec : ChangeSpec := { name := "fnExactNeighborsOf", fn := fun _ => fun
  | [d1, d2, d3] => { results := [.lit (.bool true)], args := [d1, d2, d3] }
  | _ => none }
def fnExactNeighborsOfRow : OpenClaim := { program := "ytfflbkmncnaffaa", sum := "f09f2dc6c2ca25bb7030730888e1c9bb8e68e91c32995fd77476b5e5cb2e13b0", func := "loop.example/g01031/laws.FnExactNeighborsOf", spec := "fnExactNeighborsOf", apart := false }
def FnExactNeighborsOfSaid : Prop := fnExactNeighborsOfRow.holds Try.pinned (OpenSpec.ofChange fnExactNeighborsOfSpec)

/-- ITS FALSE NEIGHBOUR: 'it returns false'. Refute it at one input. -/
def fnExactNeighborsOfWrong : ChangeSpec := { name := "fnExactNeighborsOf", fn := fun _ => fun
  | [d1, d2, d3] => { results := [.lit (.bool false)], args := [d1, d2, d3] }
  | _ => none }
def FnExactNeighborsOfWrongFalsely : Prop := fnExactNeighborsOfRow.holds Try.pinned (OpenSpec.ofChange fnExactNeighborsOfWrong)

/-- 'laws.FnExactDepthAt': WHATEVER THE INPUT: true; the input reads as it did. -/
def fnExactDepthAtSpec : ChangeSpec := { name := "fnExactDepthAt", fn := fun _ => fun
  | [d1, d2, d3, d4] => { results := [.lit (.bool true)], args := [d1, d2, d3, d4] }
  | _ => none }
def fnExactDepthAtRow : OpenClaim := { program := "ytfflbkmncnaffaa", sum := "f09f2dc6c2ca25bb7030730888e1c9bb8e68e91c32995fd77476b5e5cb2e13b0", func := "loop.example/g01031/laws.FnExactDepthAt", spec := "fnExactDepthAt", unfollowed := true, recurses := true, apart := false }
def FnExactDepthAtSaid : Prop := fnExactDepthAtRow.holds Try.pinned (OpenSpec.ofChange fnExactDepthAtSpec)

/-- ITS FALSE NEIGHBOUR: 'it returns false'. Refute it at one input. -/
def fnExactDepthAtWrong : ChangeSpec := { name := "fnExactDepthAt", fn := fun _ => fun
  | [d1, d2, d3, d4] => { results := [.lit (.bool false)], args := [d1, d2, d3, d4] }
  | _ => none }
def FnExactDepthAtWrongFalsely : Prop := fnExactDepthAtRow.holds Try.pinned (OpenSpec.ofChange fnExactDepthAtWrong)

/-- 'laws.FnExactBadPairs': WHATEVER THE INPUT: true; the input reads as it did. -/
def fnExactBadPairsSpec : ChangeSpec := { name := "fnExactBadPairs", fn := fun _ => fun
  | [d1, d2] => { results := [.lit (.bool true)], args := [d1, d2] }
  | _ => none }
def fnExactBadPairsRow : OpenClaim := { program := "ytfflbkmncnaffaa", sum := "f09f2dc6c2ca25bb7030730888e1c9bb8e68e91c32995fd77476b5e5cb2e13b0", func := "loop.example/g01031/laws.FnExactBadPairs", spec := "fnExactBadPairs", apart := false }
def FnExactBadPairsSaid : Prop := fnExactBadPairsRow.holds Try.pinned (OpenSpec.ofChange fnExactBadPairsSpec)

/-- ITS FALSE NEIGHBOUR: 'it returns false'. Refute it at one input. -/
def fnExactBadPairsWrong : ChangeSpec := { name := "fnExactBadPairs", fn := fun _ => fun
  | [d1, d2] => { results := [.lit (.bool false)], args := [d1, d2] }
  | _ => none }
def FnExactBadPairsWrongFalsely : Prop := fnExactBadPairsRow.holds Try.pinned (OpenSpec.ofChange fnExactBadPairsWrong)

/-- 'laws.FnExactTooDeep': WHATEVER THE INPUT: true; the input reads as it did. -/
def fnExactTooDeepSpec : ChangeSpec := { name := "fnExactTooDeep", fn := fun _ => fun
  | [d1, d2, d3, d4] => { results := [.lit (.bool true)], args := [d1, d2, d3, d4] }
  | _ => none }
def fnExactTooDeepRow : OpenClaim := { program := "ytfflbkmncnaffaa", sum := "f09f2dc6c2ca25bb7030730888e1c9bb8e68e91c32995fd77476b5e5cb2e13b0", func := "loop.example/g01031/laws.FnExactTooDeep", spec := "fnExactTooDeep", unfollowed := true, recurses := true, apart := false }
def FnExactTooDeepSaid : Prop := fnExactTooDeepRow.holds Try.pinned (OpenSpec.ofChange fnExactTooDeepSpec)

/-- ITS FALSE NEIGHBOUR: 'it returns false'. Refute it at one input. -/
def fnExactTooDeepWrong : ChangeSpec := { name := "fnExactTooDeep", fn := fun _ => fun
  | [d1, d2, d3, d4] => { results := [.lit (.bool false)], args := [d1, d2, d3, d4] }
  | _ => none }
def FnExactTooDeepWrongFalsely : Prop := fnExactTooDeepRow.holds Try.pinned (OpenSpec.ofChange fnExactTooDeepWrong)

/- THE SECOND FORM. 'bulk': how many values and letters a reading holds, each counted each time it is reached (what is shared counts as often as it is met; a slice's spare places count too). A statement '..UptoSaid' is the law's where the arguments, and the package variables that the reading takes, are together of bulk at most 1048576: NARROWER than '..Said'. Prove '..Said' where nothing that the law and all that it calls make is longer than what came in: it says more and counts as full. Else prove '..UptoSaid'. A law counts once. -/
mutual
def uptoBulk {H : Type} : DataW H → Nat
  | .lit (.string bytes) => bytes.length + 1
  | .lit _ => 1
  | .nil => 1
  | .ptr d => uptoBulk d + 1
  | .slice elems spare => uptoBulkAll elems + uptoBulkAll spare + 1
  | .agg parts => uptoBulkAll parts + 1
  | .iface _ d => uptoBulk d + 1
  | .map entries => uptoBulkEntries entries + 1
  | .held _ => 1
def uptoBulkAll {H : Type} : List (DataW H) → Nat
  | [] => 0
  | d :: r => uptoBulk d + uptoBulkAll r
def uptoBulkEntries {H : Type} : List (Lit × DataW H) → Nat
  | [] => 0
  | x :: r => uptoBulkEntry x + uptoBulkEntries r
def uptoBulkEntry {H : Type} : Lit × DataW H → Nat
  | (.string bytes, d) => bytes.length + uptoBulk d + 1
  | (_, d) => uptoBulk d + 1
 end
def uptoSmall : (H : Type) → List (DataW H) → Bool := fun _ ds => decide (uptoBulkAll ds ≤ 1048576)
def OpenSpec.upto (s : _root_.Go.ChangeSpec) : _root_.Go.OpenSpec := { _root_.Go.OpenSpec.ofChange s with cond := some uptoSmall }

/-- 'laws.FnExactIsInCircle', WHERE WHAT IT READS IS OF BULK AT MOST 1048576: true; the input reads as it did. -/
def fnExactIsInCircleUptoRow : OpenClaim := { program := "ytfflbkmncnaffaa", sum := "f09f2dc6c2ca25bb7030730888e1c9bb8e68e91c32995fd77476b5e5cb2e13b0", func := "loop.example/g01031/laws.FnExactIsInCircle", spec := "fnExactIsInCircle", apart := false, narrowed := true }
def FnExactIsInCircleUptoSaid : Prop := fnExactIsInCircleUptoRow.holds Try.pinned (OpenSpec.upto fnExactIsInCircleSpec)

/-- 'laws.FnMeshes', WHERE WHAT IT READS IS OF BULK AT MOST 1048576: true; the input reads as it did. -/
def fnMeshesUptoRow : OpenClaim := { program := "ytfflbkmncnaffaa", sum := "f09f2dc6c2ca25bb7030730888e1c9bb8e68e91c32995fd77476b5e5cb2e13b0", func := "loop.example/g01031/laws.FnMeshes", spec := "fnMeshes", unfollowed := true, recurses := true, apart := false, narrowed := true }
def FnMeshesUptoSaid : Prop := fnMeshesUptoRow.holds Try.pinned (OpenSpec.upto fnMeshesSpec)

/-- 'laws.FnCircles', WHERE WHAT IT READS IS OF BULK AT MOST 1048576: true; the input reads as it did. -/
def fnCirclesUptoRow : OpenClaim := { program := "ytfflbkmncnaffaa", sum := "f09f2dc6c2ca25bb7030730888e1c9bb8e68e91c32995fd77476b5e5cb2e13b0", func := "loop.example/g01031/laws.FnCircles", spec := "fnCircles", unfollowed := true, recurses := true, apart := false, narrowed := true }
def FnCirclesUptoSaid : Prop := fnCirclesUptoRow.holds Try.pinned (OpenSpec.upto fnCirclesSpec)

/-- 'laws.FnExactIsMesh', WHERE WHAT IT READS IS OF BULK AT MOST 1048576: true; the input reads as it did. -/
def fnExactIsMeshUptoRow : OpenClaim := { program := "ytfflbkmncnaffaa", sum := "f09f2dc6c2ca25bb7030730888e1c9bb8e68e91c32995fd77476b5e5cb2e13b0", func := "loop.example/g01031/laws.FnExactIsMesh", spec := "fnExactIsMesh", apart := false, narrowed := true }
def FnExactIsMeshUptoSaid : Prop := fnExactIsMeshUptoRow.holds Try.pinned (OpenSpec.upto fnExactIsMeshSpec)

/-- 'laws.FnExactAreaOf', WHERE WHAT IT READS IS OF BULK AT MOST 1048576: true; the input reads as it did. -/
def fnExactAreaOfUptoRow : OpenClaim := { program := "ytfflbkmncnaffaa", sum := "f09f2dc6c2ca25bb7030730888e1c9bb8e68e91c32995fd77476b5e5cb2e13b0", func := "loop.example/g01031/laws.FnExactAreaOf", spec := "fnExactAreaOf", apart := false, narrowed := true }
def FnExactAreaOfUptoSaid : Prop := fnExactAreaOfUptoRow.holds Try.pinned (OpenSpec.upto fnExactAreaOfSpec)

/-- 'laws.FnExactTriangleAt', WHERE WHAT IT READS IS OF BULK AT MOST 1048576: true; the input reads as it did. -/
def fnExactTriangleAtUptoRow : OpenClaim := { program := "ytfflbkmncnaffaa", sum := "f09f2dc6c2ca25bb7030730888e1c9bb8e68e91c32995fd77476b5e5cb2e13b0", func := "loop.example/g01031/laws.FnExactTriangleAt", spec := "fnExactTriangleAt", unfollowed := true, recurses := true, apart := false, narrowed := true }
def FnExactTriangleAtUptoSaid : Prop := fnExactTriangleAtUptoRow.holds Try.pinned (OpenSpec.upto fnExactTriangleAtSpec)

/-- 'laws.FnExactShoalestCorner', WHERE WHAT IT READS IS OF BULK AT MOST 1048576: true; the input reads as it did. -/
def fnExactShoalestCornerUptoRow : OpenClaim := { program := "ytfflbkmncnaffaa", sum := "f09f2dc6c2ca25bb7030730888e1c9bb8e68e91c32995fd77476b5e5cb2e13b0", func := "loop.example/g01031/laws.FnExactShoalestCorner", spec := "fnExactShoalestCorner", unfollowed := true, recurses := true, apart := false, narrowed := true }
def FnExactShoalestCornerUptoSaid : Prop := fnExactShoalestCornerUptoRow.holds Try.pinned (OpenSpec.upto fnExactShoalestCornerSpec)

/-- 'laws.FnExactNeighborsOf', WHERE WHAT IT READS IS OF BULK AT MOST 1048576: true; the input reads as it did. -/
def fnExactNeighborsOfUptoRow : OpenClaim := { program := "ytfflbkmncnaffaa", sum := "f09f2dc6c2ca25bb7030730888e1c9bb8e68e91c32995fd77476b5e5cb2e13b0", func := "loop.example/g01031/laws.FnExactNeighborsOf", spec := "fnExactNeighborsOf", apart := false, narrowed := true }
def FnExactNeighborsOfUptoSaid : Prop := fnExactNeighborsOfUptoRow.holds Try.pinned (OpenSpec.upto fnExactNeighborsOfSpec)

/-- 'laws.FnExactDepthAt', WHERE WHAT IT READS IS OF BULK AT MOST 1048576: true; the input reads as it did. -/
def fnExactDepthAtUptoRow : OpenClaim := { program := "ytfflbkmncnaffaa", sum := "f09f2dc6c2ca25bb7030730888e1c9bb8e68e91c32995fd77476b5e5cb2e13b0", func := "loop.example/g01031/laws.FnExactDepthAt", spec := "fnExactDepthAt", unfollowed := true, recurses := true, apart := false, narrowed := true }
def FnExactDepthAtUptoSaid : Prop := fnExactDepthAtUptoRow.holds Try.pinned (OpenSpec.upto fnExactDepthAtSpec)

/-- 'laws.FnExactBadPairs', WHERE WHAT IT READS IS OF BULK AT MOST 1048576: true; the input reads as it did. -/
def fnExactBadPairsUptoRow : OpenClaim := { program := "ytfflbkmncnaffaa", sum := "f09f2dc6c2ca25bb7030730888e1c9bb8e68e91c32995fd77476b5e5cb2e13b0", func := "loop.example/g01031/laws.FnExactBadPairs", spec := "fnExactBadPairs", apart := false, narrowed := true }
def FnExactBadPairsUptoSaid : Prop := fnExactBadPairsUptoRow.holds Try.pinned (OpenSpec.upto fnExactBadPairsSpec)

/-- 'laws.FnExactTooDeep', WHERE WHAT IT READS IS OF BULK AT MOST 1048576: true; the input reads as it did. -/
def fnExactTooDeepUptoRow : OpenClaim := { program := "ytfflbkmncnaffaa", sum := "f09f2dc6c2ca25bb7030730888e1c9bb8e68e91c32995fd77476b5e5cb2e13b0", func := "loop.example/g01031/laws.FnExactTooDeep", spec := "fnExactTooDeep", unfollowed := true, recurses := true, apart := false, narrowed := true }
def FnExactTooDeepUptoSaid : Prop := fnExactTooDeepUptoRow.holds Try.pinned (OpenSpec.upto fnExactTooDeepSpec)

end Rows
end Go.Proofs.Ytfflbkmncnaffaa
