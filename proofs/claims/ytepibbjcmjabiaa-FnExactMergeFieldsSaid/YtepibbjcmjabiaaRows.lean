/-
  No cell of these rows narrows 'for every input' (looked for: loops, veiled, ifaces, maps, wideKeys, modest, calm, conditions, laid).
  DERIVED. THE GIVEN ROWS OF THIS SEAT. 5 by the template 'for every input the law returns true; each argument reads behind the call as it read before'; 0 by the template 'total and deterministic' (their statements: YtepibbjcmjabiaaTotals.lean).
  GIVEN WITH THE SEED: the statements are not yours to turn. If you find one false, say at which input.
  Laid BY PROGRAM, IN A SANDBOX (cutbox-rows.mjs): the forced cells as the released guide's own fill.sh prints them over the translation 91e7dc0dcad65990… (all of the seat's roots in one cut). By AI agents, Wed Nov 11 2026. No macro, syntax, notation, axiom, sorry.
-/
import Derived.Test.YtepibbjcmjabiaaChecked
import GoSem.Claim
import GoSem.ClaimJoined
import GoSem.ClaimMapViews
import Derived.JoinedTies
import Derived.KernelRfl
namespace Go.Proofs.Ytepibbjcmjabiaa
/- THE CELL 'sum', in the pinned program and in every row, IS THE sha256 OF THE DUMP (.gsa) THAT YtepibbjcmjabiaaProg.lean LOADS. Nothing in Lean hashes anything: it is a label: what it is worth is what the hold of that sum in a sandbox is worth. -/
noncomputable def Try.pinned : Pinned := { name := "ytepibbjcmjabiaa", sum := "91e7dc0dcad65990aa28680591f374cf849414581437634b0f39236cdf4e98e8", checked := Try.checked }
namespace Rows
def none {H : Type} : Left H := { results := [], args := [] }

/-- 'laws.FnExactIsField': WHATEVER THE INPUT: true; the input reads as it did. -/
def fnExactIsFieldSpec : ChangeSpec := { name := "fnExactIsField", fn := fun _ => fun
  | [d] => { results := [.lit (.bool true)], args := [d] }
  | _ => none }
def fnExactIsFieldRow : OpenClaim := { program := "ytepibbjcmjabiaa", sum := "91e7dc0dcad65990aa28680591f374cf849414581437634b0f39236cdf4e98e8", func := "loop.example/g01031/laws.FnExactIsField", spec := "fnExactIsField", unfollowed := true, recurses := true, apart := false }
def FnExactIsFieldSaid : Prop := fnExactIsFieldRow.holds Try.pinned (OpenSpec.ofChange fnExactIsFieldSpec)

/-- ITS FALSE NEIGHBOUR: 'it returns false'. Refute it at one input. -/
def fnExactIsFieldWrong : ChangeSpec := { name := "fnExactIsField", fn := fun _ => fun
  | [d] => { results := [.lit (.bool false)], args := [d] }
  | _ => none }
def FnExactIsFieldWrongFalsely : Prop := fnExactIsFieldRow.holds Try.pinned (OpenSpec.ofChange fnExactIsFieldWrong)

/-- 'laws.FnExactShoalestCell': WHATEVER THE INPUT: true; the input reads as it did. -/
def fnExactShoalestCellSpec : ChangeSpec := { name := "fnExactShoalestCell", fn := fun _ => fun
  | [d] => { results := [.lit (.bool true)], args := [d] }
  | _ => none }
def fnExactShoalestCellRow : OpenClaim := { program := "ytepibbjcmjabiaa", sum := "91e7dc0dcad65990aa28680591f374cf849414581437634b0f39236cdf4e98e8", func := "loop.example/g01031/laws.FnExactShoalestCell", spec := "fnExactShoalestCell", unfollowed := true, recurses := true, apart := false }
def FnExactShoalestCellSaid : Prop := fnExactShoalestCellRow.holds Try.pinned (OpenSpec.ofChange fnExactShoalestCellSpec)

/-- ITS FALSE NEIGHBOUR: 'it returns false'. Refute it at one input. -/
def fnExactShoalestCellWrong : ChangeSpec := { name := "fnExactShoalestCell", fn := fun _ => fun
  | [d] => { results := [.lit (.bool false)], args := [d] }
  | _ => none }
def FnExactShoalestCellWrongFalsely : Prop := fnExactShoalestCellRow.holds Try.pinned (OpenSpec.ofChange fnExactShoalestCellWrong)

/-- 'laws.FnExactContourLength': WHATEVER THE INPUT: true; the input reads as it did. -/
def fnExactContourLengthSpec : ChangeSpec := { name := "fnExactContourLength", fn := fun _ => fun
  | [d1, d2] => { results := [.lit (.bool true)], args := [d1, d2] }
  | _ => none }
def fnExactContourLengthRow : OpenClaim := { program := "ytepibbjcmjabiaa", sum := "91e7dc0dcad65990aa28680591f374cf849414581437634b0f39236cdf4e98e8", func := "loop.example/g01031/laws.FnExactContourLength", spec := "fnExactContourLength", unfollowed := true, recurses := true, apart := false }
def FnExactContourLengthSaid : Prop := fnExactContourLengthRow.holds Try.pinned (OpenSpec.ofChange fnExactContourLengthSpec)

/-- ITS FALSE NEIGHBOUR: 'it returns false'. Refute it at one input. -/
def fnExactContourLengthWrong : ChangeSpec := { name := "fnExactContourLength", fn := fun _ => fun
  | [d1, d2] => { results := [.lit (.bool false)], args := [d1, d2] }
  | _ => none }
def FnExactContourLengthWrongFalsely : Prop := fnExactContourLengthRow.holds Try.pinned (OpenSpec.ofChange fnExactContourLengthWrong)

/-- 'laws.FnExactMergeFields': WHATEVER THE INPUT: true; the input reads as it did. -/
def fnExactMergeFieldsSpec : ChangeSpec := { name := "fnExactMergeFields", fn := fun _ => fun
  | [d1, d2] => { results := [.lit (.bool true)], args := [d1, d2] }
  | _ => none }
def fnExactMergeFieldsRow : OpenClaim := { program := "ytepibbjcmjabiaa", sum := "91e7dc0dcad65990aa28680591f374cf849414581437634b0f39236cdf4e98e8", func := "loop.example/g01031/laws.FnExactMergeFields", spec := "fnExactMergeFields", unfollowed := true, recurses := true, apart := false }
def FnExactMergeFieldsSaid : Prop := fnExactMergeFieldsRow.holds Try.pinned (OpenSpec.ofChange fnExactMergeFieldsSpec)

/-- ITS FALSE NEIGHBOUR: 'it returns false'. Refute it at one input. -/
def fnExactMergeFieldsWrong : ChangeSpec := { name := "fnExactMergeFields", fn := fun _ => fun
  | [d1, d2] => { results := [.lit (.bool false)], args := [d1, d2] }
  | _ => none }
def FnExactMergeFieldsWrongFalsely : Prop := fnExactMergeFieldsRow.holds Try.pinned (OpenSpec.ofChange fnExactMergeFieldsWrong)

/-- 'laws.FnExactShoalCells': WHATEVER THE INPUT: true; the input reads as it did. -/
def fnExactShoalCellsSpec : ChangeSpec := { name := "fnExactShoalCells", fn := fun _ => fun
  | [d1, d2] => { results := [.lit (.bool true)], args := [d1, d2] }
  | _ => none }
def fnExactShoalCellsRow : OpenClaim := { program := "ytepibbjcmjabiaa", sum := "91e7dc0dcad65990aa28680591f374cf849414581437634b0f39236cdf4e98e8", func := "loop.example/g01031/laws.FnExactShoalCells", spec := "fnExactShoalCells", unfollowed := true, recurses := true, apart := false }
def FnExactShoalCellsSaid : Prop := fnExactShoalCellsRow.holds Try.pinned (OpenSpec.ofChange fnExactShoalCellsSpec)

/-- ITS FALSE NEIGHBOUR: 'it returns false'. Refute it at one input. -/
def fnExactShoalCellsWrong : ChangeSpec := { name := "fnExactShoalCells", fn := fun _ => fun
  | [d1, d2] => { results := [.lit (.bool false)], args := [d1, d2] }
  | _ => none }
def FnExactShoalCellsWrongFalsely : Prop := fnExactShoalCellsRow.holds Try.pinned (OpenSpec.ofChange fnExactShoalCellsWrong)

/- THE SECOND FORM. 'bulk': how many values and letters a reading holds, each counted each time it is reached (what is shared counts as often as it is met; a slice's spare places count too). A statement '..UptoSaid' is the law's where the arguments, and the package variables that the reading takes, are together of bulk at most 1048576: NARROWER than '..Said'. Prove '..Said' where nothing that the law and all that it calls make is longer than what came in: it says more and counts as full. Else prove '..UptoSaid'. A law counts once. -/
mutual
def uptoBulk {H : Type} : DataW H → Nat
  | .lit (.string bytes) => bytes.length + 1
  | .lit _ => 1
  | .nil => 1
  | .ptr d => uptoBulk d + 1
  | .slice elems spare => uptoBulkAll elems + uptoBulkAll spare + 1
  | .agg parts => uptoBulkAll parts + 1
  | .iface _ d => uptoBulk d + 1
  | .map entries => uptoBulkEntries entries + 1
  | .held _ => 1
def uptoBulkAll {H : Type} : List (DataW H) → Nat
  | [] => 0
  | d :: r => uptoBulk d + uptoBulkAll r
def uptoBulkEntries {H : Type} : List (Lit × DataW H) → Nat
  | [] => 0
  | x :: r => uptoBulkEntry x + uptoBulkEntries r
def uptoBulkEntry {H : Type} : Lit × DataW H → Nat
  | (.string bytes, d) => bytes.length + uptoBulk d + 1
  | (_, d) => uptoBulk d + 1
 end
def uptoSmall : (H : Type) → List (DataW H) → Bool := fun _ ds => decide (uptoBulkAll ds ≤ 1048576)
def OpenSpec.upto (s : _root_.Go.ChangeSpec) : _root_.Go.OpenSpec := { _root_.Go.OpenSpec.ofChange s with cond := some uptoSmall }

/-- 'laws.FnExactIsField', WHERE WHAT IT READS IS OF BULK AT MOST 1048576: true; the input reads as it did. -/
def fnExactIsFieldUptoRow : OpenClaim := { program := "ytepibbjcmjabiaa", sum := "91e7dc0dcad65990aa28680591f374cf849414581437634b0f39236cdf4e98e8", func := "loop.example/g01031/laws.FnExactIsField", spec := "fnExactIsField", unfollowed := true, recurses := true, apart := false, narrowed := true }
def FnExactIsFieldUptoSaid : Prop := fnExactIsFieldUptoRow.holds Try.pinned (OpenSpec.upto fnExactIsFieldSpec)

/-- 'laws.FnExactShoalestCell', WHERE WHAT IT READS IS OF BULK AT MOST 1048576: true; the input reads as it did. -/
def fnExactShoalestCellUptoRow : OpenClaim := { program := "ytepibbjcmjabiaa", sum := "91e7dc0dcad65990aa28680591f374cf849414581437634b0f39236cdf4e98e8", func := "loop.example/g01031/laws.FnExactShoalestCell", spec := "fnExactShoalestCell", unfollowed := true, recurses := true, apart := false, narrowed := true }
def FnExactShoalestCellUptoSaid : Prop := fnExactShoalestCellUptoRow.holds Try.pinned (OpenSpec.upto fnExactShoalestCellSpec)

/-- 'laws.FnExactContourLength', WHERE WHAT IT READS IS OF BULK AT MOST 1048576: true; the input reads as it did. -/
def fnExactContourLengthUptoRow : OpenClaim := { program := "ytepibbjcmjabiaa", sum := "91e7dc0dcad65990aa28680591f374cf849414581437634b0f39236cdf4e98e8", func := "loop.example/g01031/laws.FnExactContourLength", spec := "fnExactContourLength", unfollowed := true, recurses := true, apart := false, narrowed := true }
def FnExactContourLengthUptoSaid : Prop := fnExactContourLengthUptoRow.holds Try.pinned (OpenSpec.upto fnExactContourLengthSpec)

/-- 'laws.FnExactMergeFields', WHERE WHAT IT READS IS OF BULK AT MOST 1048576: true; the input reads as it did. -/
def fnExactMergeFieldsUptoRow : OpenClaim := { program := "ytepibbjcmjabiaa", sum := "91e7dc0dcad65990aa28680591f374cf849414581437634b0f39236cdf4e98e8", func := "loop.example/g01031/laws.FnExactMergeFields", spec := "fnExactMergeFields", unfollowed := true, recurses := true, apart := false, narrowed := true }
def FnExactMergeFieldsUptoSaid : Prop := fnExactMergeFieldsUptoRow.holds Try.pinned (OpenSpec.upto fnExactMergeFieldsSpec)

/-- 'laws.FnExactShoalCells', WHERE WHAT IT READS IS OF BULK AT MOST 1048576: true; the input reads as it did. -/
def fnExactShoalCellsUptoRow : OpenClaim := { program := "ytepibbjcmjabiaa", sum := "91e7dc0dcad65990aa28680591f374cf849414581437634b0f39236cdf4e98e8", func := "loop.example/g01031/laws.FnExactShoalCells", spec := "fnExactShoalCells", unfollowed := true, recurses := true, apart := false, narrowed := true }
def FnExactShoalCellsUptoSaid : Prop := fnExactShoalCellsUptoRow.holds Try.pinned (OpenSpec.upto fnExactShoalCellsSpec)

end Rows
end Go.Proofs.Ytepibbjcmjabiaa
