/-
  No cell of these rows narrows 'for every input' (looked for: loops, veiled, ifaces, maps, wideKeys, modest, calm, conditions, laid).
  DERIVED. THE GIVEN ROWS OF THIS SEAT. 11 by the template 'for every input the law returns true; each argument reads behind the call as it read before'; 0 by the template 'total and deterministic' (their statements: YtakkgagdbmlafaaTotals.lean).
  GIVEN WITH THE SEED: the statements are not yours to turn. If you find one false, say at which input.
  Laid BY PROGRAM, IN A SANDBOX (cutbox-rows.mjs): the forced cells as the released guide's own fill.sh prints them over the translation 0abcb1bb82c06bb0… (all of the seat's roots in one cut). By AI agents, Wed Nov 11 2026. No macro, syntax, notation, axiom, sorry.
-/
import Derived.Test.YtakkgagdbmlafaaChecked
import GoSem.Claim
import GoSem.ClaimJoined
import GoSem.ClaimMapViews
import Derived.JoinedTies
import Derived.KernelRfl
namespace Go.Proofs.Ytakkgagdbmlafaa
/- THE CELL 'sum', in the pinned program and in every row, IS THE sha256 OF THE DUMP (.gsa) THAT YtakkgagdbmlafaaProg.lean LOADS. Nothing in Lean hashes anything: it is a label: what it is worth is what the hold of that sum in a sandbox is worth. -/
noncomputable def Try.pinned : Pinned := { name := "ytakkgagdbmlafaa", sum := "0abcb1bb82c06bb0b0d48ade8db9f342ecc71ccd82da82c74eb184419da0afb5", checked := Try.checked }
namespace Rows
def none {H : Type} : Left H := { results := [], args := [] }

/-- 'laws.FnExactIsSelection': WHATEVER THE INPUT: true; the input reads as it did. -/
def fnExactIsSelectionSpec : ChangeSpec := { name := "fnExactIsSelection", fn := fun _ => fun
  | [d1, d2] => { results := [.lit (.bool true)], args := [d1, d2] }
  | _ => none }
def fnExactIsSelectionRow : OpenClaim := { program := "ytakkgagdbmlafaa", sum := "0abcb1bb82c06bb0b0d48ade8db9f342ecc71ccd82da82c74eb184419da0afb5", func := "loop.example/g01031/laws.FnExactIsSelection", spec := "fnExactIsSelection", unfollowed := true, recurses := true, apart := false }
def FnExactIsSelectionSaid : Prop := fnExactIsSelectionRow.holds Try.pinned (OpenSpec.ofChange fnExactIsSelectionSpec)

/-- ITS FALSE NEIGHBOUR: 'it returns false'. Refute it at one input. -/
def fnExactIsSelectionWrong : ChangeSpec := { name := "fnExactIsSelection", fn := fun _ => fun
  | [d1, d2] => { results := [.lit (.bool false)], args := [d1, d2] }
  | _ => none }
def FnExactIsSelectionWrongFalsely : Prop := fnExactIsSelectionRow.holds Try.pinned (OpenSpec.ofChange fnExactIsSelectionWrong)

/-- 'laws.FnSelections': WHATEVER THE INPUT: true; the input reads as it did. -/
def fnSelectionsSpec : ChangeSpec := { name := "fnSelections", fn := fun _ => fun
  | [d] => { results := [.lit (.bool true)], args := [d] }
  | _ => none }
def fnSelectionsRow : OpenClaim := { program := "ytakkgagdbmlafaa", sum := "0abcb1bb82c06bb0b0d48ade8db9f342ecc71ccd82da82c74eb184419da0afb5", func := "loop.example/g01031/laws.FnSelections", spec := "fnSelections", unfollowed := true, recurses := true, apart := false }
def FnSelectionsSaid : Prop := fnSelectionsRow.holds Try.pinned (OpenSpec.ofChange fnSelectionsSpec)

/-- ITS FALSE NEIGHBOUR: 'it returns false'. Refute it at one input. -/
def fnSelectionsWrong : ChangeSpec := { name := "fnSelections", fn := fun _ => fun
  | [d] => { results := [.lit (.bool false)], args := [d] }
  | _ => none }
def FnSelectionsWrongFalsely : Prop := fnSelectionsRow.holds Try.pinned (OpenSpec.ofChange fnSelectionsWrong)

/-- 'laws.FnExactIsThin': WHATEVER THE INPUT: true; the input reads as it did. -/
def fnExactIsThinSpec : ChangeSpec := { name := "fnExactIsThin", fn := fun _ => fun
  | [d1, d2, d3] => { results := [.lit (.bool true)], args := [d1, d2, d3] }
  | _ => none }
def fnExactIsThinRow : OpenClaim := { program := "ytakkgagdbmlafaa", sum := "0abcb1bb82c06bb0b0d48ade8db9f342ecc71ccd82da82c74eb184419da0afb5", func := "loop.example/g01031/laws.FnExactIsThin", spec := "fnExactIsThin", unfollowed := true, recurses := true, apart := false }
def FnExactIsThinSaid : Prop := fnExactIsThinRow.holds Try.pinned (OpenSpec.ofChange fnExactIsThinSpec)

/-- ITS FALSE NEIGHBOUR: 'it returns false'. Refute it at one input. -/
def fnExactIsThinWrong : ChangeSpec := { name := "fnExactIsThin", fn := fun _ => fun
  | [d1, d2, d3] => { results := [.lit (.bool false)], args := [d1, d2, d3] }
  | _ => none }
def FnExactIsThinWrongFalsely : Prop := fnExactIsThinRow.holds Try.pinned (OpenSpec.ofChange fnExactIsThinWrong)

/-- 'laws.FnExactLargestRadius': WHATEVER THE INPUT: true; the input reads as it did. -/
def fnExactLargestRadiusSpec : ChangeSpec := { name := "fnExactLargestRadius", fn := fun _ => fun
  | [d1, d2] => { results := [.lit (.bool true)], args := [d1, d2] }
  | _ => none }
def fnExactLargestRadiusRow : OpenClaim := { program := "ytakkgagdbmlafaa", sum := "0abcb1bb82c06bb0b0d48ade8db9f342ecc71ccd82da82c74eb184419da0afb5", func := "loop.example/g01031/laws.FnExactLargestRadius", spec := "fnExactLargestRadius", unfollowed := true, recurses := true, apart := false }
def FnExactLargestRadiusSaid : Prop := fnExactLargestRadiusRow.holds Try.pinned (OpenSpec.ofChange fnExactLargestRadiusSpec)

/-- ITS FALSE NEIGHBOUR: 'it returns false'. Refute it at one input. -/
def fnExactLargestRadiusWrong : ChangeSpec := { name := "fnExactLargestRadius", fn := fun _ => fun
  | [d1, d2] => { results := [.lit (.bool false)], args := [d1, d2] }
  | _ => none }
def FnExactLargestRadiusWrongFalsely : Prop := fnExactLargestRadiusRow.holds Try.pinned (OpenSpec.ofChange fnExactLargestRadiusWrong)

/-- 'laws.FnExactDepthsShown': WHATEVER THE INPUT: true; the input reads as it did. -/
def fnExactDepthsShownSpec : ChangeSpec := { name := "fnExactDepthsShown", fn := fun _ => fun
  | [d1, d2] => { results := [.lit (.bool true)], args := [d1, d2] }
  | _ => none }
def fnExactDepthsShownRow : OpenClaim := { program := "ytakkgagdbmlafaa", sum := "0abcb1bb82c06bb0b0d48ade8db9f342ecc71ccd82da82c74eb184419da0afb5", func := "loop.example/g01031/laws.FnExactDepthsShown", spec := "fnExactDepthsShown", unfollowed := true, recurses := true, apart := false }
def FnExactDepthsShownSaid : Prop := fnExactDepthsShownRow.holds Try.pinned (OpenSpec.ofChange fnExactDepthsShownSpec)

/-- ITS FALSE NEIGHBOUR: 'it returns false'. Refute it at one input. -/
def fnExactDepthsShownWrong : ChangeSpec := { name := "fnExactDepthsShown", fn := fun _ => fun
  | [d1, d2] => { results := [.lit (.bool false)], args := [d1, d2] }
  | _ => none }
def FnExactDepthsShownWrongFalsely : Prop := fnExactDepthsShownRow.holds Try.pinned (OpenSpec.ofChange fnExactDepthsShownWrong)

/-- 'laws.FnExactIsSafe': WHATEVER THE INPUT: true; the input reads as it did. -/
def fnExactIsSafeSpec : ChangeSpec := { name := "fnExactIsSafe", fn := fun _ => fun
  | [d1, d2, d3] => { results := [.lit (.bool true)], args := [d1, d2, d3] }
  | _ => none }
def fnExactIsSafeRow : OpenClaim := { program := "ytakkgagdbmlafaa", sum := "0abcb1bb82c06bb0b0d48ade8db9f342ecc71ccd82da82c74eb184419da0afb5", func := "loop.example/g01031/laws.FnExactIsSafe", spec := "fnExactIsSafe", unfollowed := true, recurses := true, apart := false }
def FnExactIsSafeSaid : Prop := fnExactIsSafeRow.holds Try.pinned (OpenSpec.ofChange fnExactIsSafeSpec)

/-- ITS FALSE NEIGHBOUR: 'it returns false'. Refute it at one input. -/
def fnExactIsSafeWrong : ChangeSpec := { name := "fnExactIsSafe", fn := fun _ => fun
  | [d1, d2, d3] => { results := [.lit (.bool false)], args := [d1, d2, d3] }
  | _ => none }
def FnExactIsSafeWrongFalsely : Prop := fnExactIsSafeRow.holds Try.pinned (OpenSpec.ofChange fnExactIsSafeWrong)

/-- 'laws.FnExactFewestSafe': WHATEVER THE INPUT: true; the input reads as it did. -/
def fnExactFewestSafeSpec : ChangeSpec := { name := "fnExactFewestSafe", fn := fun _ => fun
  | [d1, d2] => { results := [.lit (.bool true)], args := [d1, d2] }
  | _ => none }
def fnExactFewestSafeRow : OpenClaim := { program := "ytakkgagdbmlafaa", sum := "0abcb1bb82c06bb0b0d48ade8db9f342ecc71ccd82da82c74eb184419da0afb5", func := "loop.example/g01031/laws.FnExactFewestSafe", spec := "fnExactFewestSafe", unfollowed := true, recurses := true, apart := false }
def FnExactFewestSafeSaid : Prop := fnExactFewestSafeRow.holds Try.pinned (OpenSpec.ofChange fnExactFewestSafeSpec)

/-- ITS FALSE NEIGHBOUR: 'it returns false'. Refute it at one input. -/
def fnExactFewestSafeWrong : ChangeSpec := { name := "fnExactFewestSafe", fn := fun _ => fun
  | [d1, d2] => { results := [.lit (.bool false)], args := [d1, d2] }
  | _ => none }
def FnExactFewestSafeWrongFalsely : Prop := fnExactFewestSafeRow.holds Try.pinned (OpenSpec.ofChange fnExactFewestSafeWrong)

/-- 'laws.FnExactNotStoodFor': WHATEVER THE INPUT: true; the input reads as it did. -/
def fnExactNotStoodForSpec : ChangeSpec := { name := "fnExactNotStoodFor", fn := fun _ => fun
  | [d1, d2, d3] => { results := [.lit (.bool true)], args := [d1, d2, d3] }
  | _ => none }
def fnExactNotStoodForRow : OpenClaim := { program := "ytakkgagdbmlafaa", sum := "0abcb1bb82c06bb0b0d48ade8db9f342ecc71ccd82da82c74eb184419da0afb5", func := "loop.example/g01031/laws.FnExactNotStoodFor", spec := "fnExactNotStoodFor", unfollowed := true, recurses := true, apart := false }
def FnExactNotStoodForSaid : Prop := fnExactNotStoodForRow.holds Try.pinned (OpenSpec.ofChange fnExactNotStoodForSpec)

/-- ITS FALSE NEIGHBOUR: 'it returns false'. Refute it at one input. -/
def fnExactNotStoodForWrong : ChangeSpec := { name := "fnExactNotStoodFor", fn := fun _ => fun
  | [d1, d2, d3] => { results := [.lit (.bool false)], args := [d1, d2, d3] }
  | _ => none }
def FnExactNotStoodForWrongFalsely : Prop := fnExactNotStoodForRow.holds Try.pinned (OpenSpec.ofChange fnExactNotStoodForWrong)

/-- 'laws.FnExactCanLeaveOut': WHATEVER THE INPUT: true; the input reads as it did. -/
def fnExactCanLeaveOutSpec : ChangeSpec := { name := "fnExactCanLeaveOut", fn := fun _ => fun
  | [d1, d2, d3] => { results := [.lit (.bool true)], args := [d1, d2, d3] }
  | _ => none }
def fnExactCanLeaveOutRow : OpenClaim := { program := "ytakkgagdbmlafaa", sum := "0abcb1bb82c06bb0b0d48ade8db9f342ecc71ccd82da82c74eb184419da0afb5", func := "loop.example/g01031/laws.FnExactCanLeaveOut", spec := "fnExactCanLeaveOut", unfollowed := true, recurses := true, apart := false }
def FnExactCanLeaveOutSaid : Prop := fnExactCanLeaveOutRow.holds Try.pinned (OpenSpec.ofChange fnExactCanLeaveOutSpec)

/-- ITS FALSE NEIGHBOUR: 'it returns false'. Refute it at one input. -/
def fnExactCanLeaveOutWrong : ChangeSpec := { name := "fnExactCanLeaveOut", fn := fun _ => fun
  | [d1, d2, d3] => { results := [.lit (.bool false)], args := [d1, d2, d3] }
  | _ => none }
def FnExactCanLeaveOutWrongFalsely : Prop := fnExactCanLeaveOutRow.holds Try.pinned (OpenSpec.ofChange fnExactCanLeaveOutWrong)

/-- 'laws.FnLeftOut': WHATEVER THE INPUT: true; the input reads as it did. -/
def fnLeftOutSpec : ChangeSpec := { name := "fnLeftOut", fn := fun _ => fun
  | [d] => { results := [.lit (.bool true)], args := [d] }
  | _ => none }
def fnLeftOutRow : OpenClaim := { program := "ytakkgagdbmlafaa", sum := "0abcb1bb82c06bb0b0d48ade8db9f342ecc71ccd82da82c74eb184419da0afb5", func := "loop.example/g01031/laws.FnLeftOut", spec := "fnLeftOut", unfollowed := true, recurses := true, apart := false }
def FnLeftOutSaid : Prop := fnLeftOutRow.holds Try.pinned (OpenSpec.ofChange fnLeftOutSpec)

/-- ITS FALSE NEIGHBOUR: 'it returns false'. Refute it at one input. -/
def fnLeftOutWrong : ChangeSpec := { name := "fnLeftOut", fn := fun _ => fun
  | [d] => { results := [.lit (.bool false)], args := [d] }
  | _ => none }
def FnLeftOutWrongFalsely : Prop := fnLeftOutRow.holds Try.pinned (OpenSpec.ofChange fnLeftOutWrong)

/-- 'laws.FnExactSelectShoals': WHATEVER THE INPUT: true; the input reads as it did. -/
def fnExactSelectShoalsSpec : ChangeSpec := { name := "fnExactSelectShoals", fn := fun _ => fun
  | [d1, d2] => { results := [.lit (.bool true)], args := [d1, d2] }
  | _ => none }
def fnExactSelectShoalsRow : OpenClaim := { program := "ytakkgagdbmlafaa", sum := "0abcb1bb82c06bb0b0d48ade8db9f342ecc71ccd82da82c74eb184419da0afb5", func := "loop.example/g01031/laws.FnExactSelectShoals", spec := "fnExactSelectShoals", unfollowed := true, recurses := true, apart := false }
def FnExactSelectShoalsSaid : Prop := fnExactSelectShoalsRow.holds Try.pinned (OpenSpec.ofChange fnExactSelectShoalsSpec)

/-- ITS FALSE NEIGHBOUR: 'it returns false'. Refute it at one input. -/
def fnExactSelectShoalsWrong : ChangeSpec := { name := "fnExactSelectShoals", fn := fun _ => fun
  | [d1, d2] => { results := [.lit (.bool false)], args := [d1, d2] }
  | _ => none }
def FnExactSelectShoalsWrongFalsely : Prop := fnExactSelectShoalsRow.holds Try.pinned (OpenSpec.ofChange fnExactSelectShoalsWrong)

/- THE SECOND FORM. 'bulk': how many values and letters a reading holds, each counted each time it is reached (what is shared counts as often as it is met; a slice's spare places count too). A statement '..UptoSaid' is the law's where the arguments, and the package variables that the reading takes, are together of bulk at most 1048576: NARROWER than '..Said'. Prove '..Said' where nothing that the law and all that it calls make is longer than what came in: it says more and counts as full. Else prove '..UptoSaid'. A law counts once. -/
mutual
def uptoBulk {H : Type} : DataW H → Nat
  | .lit (.string bytes) => bytes.length + 1
  | .lit _ => 1
  | .nil => 1
  | .ptr d => uptoBulk d + 1
  | .slice elems spare => uptoBulkAll elems + uptoBulkAll spare + 1
  | .agg parts => uptoBulkAll parts + 1
  | .iface _ d => uptoBulk d + 1
  | .map entries => uptoBulkEntries entries + 1
  | .held _ => 1
def uptoBulkAll {H : Type} : List (DataW H) → Nat
  | [] => 0
  | d :: r => uptoBulk d + uptoBulkAll r
def uptoBulkEntries {H : Type} : List (Lit × DataW H) → Nat
  | [] => 0
  | x :: r => uptoBulkEntry x + uptoBulkEntries r
def uptoBulkEntry {H : Type} : Lit × DataW H → Nat
  | (.string bytes, d) => bytes.length + uptoBulk d + 1
  | (_, d) => uptoBulk d + 1
 end
def uptoSmall : (H : Type) → List (DataW H) → Bool := fun _ ds => decide (uptoBulkAll ds ≤ 1048576)
def OpenSpec.upto (s : _root_.Go.ChangeSpec) : _root_.Go.OpenSpec := { _root_.Go.OpenSpec.ofChange s with cond := some uptoSmall }

/-- 'laws.FnExactIsSelection', WHERE WHAT IT READS IS OF BULK AT MOST 1048576: true; the input reads as it did. -/
def fnExactIsSelectionUptoRow : OpenClaim := { program := "ytakkgagdbmlafaa", sum := "0abcb1bb82c06bb0b0d48ade8db9f342ecc71ccd82da82c74eb184419da0afb5", func := "loop.example/g01031/laws.FnExactIsSelection", spec := "fnExactIsSelection", unfollowed := true, recurses := true, apart := false, narrowed := true }
def FnExactIsSelectionUptoSaid : Prop := fnExactIsSelectionUptoRow.holds Try.pinned (OpenSpec.upto fnExactIsSelectionSpec)

/-- 'laws.FnSelections', WHERE WHAT IT READS IS OF BULK AT MOST 1048576: true; the input reads as it did. -/
def fnSelectionsUptoRow : OpenClaim := { program := "ytakkgagdbmlafaa", sum := "0abcb1bb82c06bb0b0d48ade8db9f342ecc71ccd82da82c74eb184419da0afb5", func := "loop.example/g01031/laws.FnSelections", spec := "fnSelections", unfollowed := true, recurses := true, apart := false, narrowed := true }
def FnSelectionsUptoSaid : Prop := fnSelectionsUptoRow.holds Try.pinned (OpenSpec.upto fnSelectionsSpec)

/-- 'laws.FnExactIsThin', WHERE WHAT IT READS IS OF BULK AT MOST 1048576: true; the input reads as it did. -/
def fnExactIsThinUptoRow : OpenClaim := { program := "ytakkgagdbmlafaa", sum := "0abcb1bb82c06bb0b0d48ade8db9f342ecc71ccd82da82c74eb184419da0afb5", func := "loop.example/g01031/laws.FnExactIsThin", spec := "fnExactIsThin", unfollowed := true, recurses := true, apart := false, narrowed := true }
def FnExactIsThinUptoSaid : Prop := fnExactIsThinUptoRow.holds Try.pinned (OpenSpec.upto fnExactIsThinSpec)

/-- 'laws.FnExactLargestRadius', WHERE WHAT IT READS IS OF BULK AT MOST 1048576: true; the input reads as it did. -/
def fnExactLargestRadiusUptoRow : OpenClaim := { program := "ytakkgagdbmlafaa", sum := "0abcb1bb82c06bb0b0d48ade8db9f342ecc71ccd82da82c74eb184419da0afb5", func := "loop.example/g01031/laws.FnExactLargestRadius", spec := "fnExactLargestRadius", unfollowed := true, recurses := true, apart := false, narrowed := true }
def FnExactLargestRadiusUptoSaid : Prop := fnExactLargestRadiusUptoRow.holds Try.pinned (OpenSpec.upto fnExactLargestRadiusSpec)

/-- 'laws.FnExactDepthsShown', WHERE WHAT IT READS IS OF BULK AT MOST 1048576: true; the input reads as it did. -/
def fnExactDepthsShownUptoRow : OpenClaim := { program := "ytakkgagdbmlafaa", sum := "0abcb1bb82c06bb0b0d48ade8db9f342ecc71ccd82da82c74eb184419da0afb5", func := "loop.example/g01031/laws.FnExactDepthsShown", spec := "fnExactDepthsShown", unfollowed := true, recurses := true, apart := false, narrowed := true }
def FnExactDepthsShownUptoSaid : Prop := fnExactDepthsShownUptoRow.holds Try.pinned (OpenSpec.upto fnExactDepthsShownSpec)

/-- 'laws.FnExactIsSafe', WHERE WHAT IT READS IS OF BULK AT MOST 1048576: true; the input reads as it did. -/
def fnExactIsSafeUptoRow : OpenClaim := { program := "ytakkgagdbmlafaa", sum := "0abcb1bb82c06bb0b0d48ade8db9f342ecc71ccd82da82c74eb184419da0afb5", func := "loop.example/g01031/laws.FnExactIsSafe", spec := "fnExactIsSafe", unfollowed := true, recurses := true, apart := false, narrowed := true }
def FnExactIsSafeUptoSaid : Prop := fnExactIsSafeUptoRow.holds Try.pinned (OpenSpec.upto fnExactIsSafeSpec)

/-- 'laws.FnExactFewestSafe', WHERE WHAT IT READS IS OF BULK AT MOST 1048576: true; the input reads as it did. -/
def fnExactFewestSafeUptoRow : OpenClaim := { program := "ytakkgagdbmlafaa", sum := "0abcb1bb82c06bb0b0d48ade8db9f342ecc71ccd82da82c74eb184419da0afb5", func := "loop.example/g01031/laws.FnExactFewestSafe", spec := "fnExactFewestSafe", unfollowed := true, recurses := true, apart := false, narrowed := true }
def FnExactFewestSafeUptoSaid : Prop := fnExactFewestSafeUptoRow.holds Try.pinned (OpenSpec.upto fnExactFewestSafeSpec)

/-- 'laws.FnExactNotStoodFor', WHERE WHAT IT READS IS OF BULK AT MOST 1048576: true; the input reads as it did. -/
def fnExactNotStoodForUptoRow : OpenClaim := { program := "ytakkgagdbmlafaa", sum := "0abcb1bb82c06bb0b0d48ade8db9f342ecc71ccd82da82c74eb184419da0afb5", func := "loop.example/g01031/laws.FnExactNotStoodFor", spec := "fnExactNotStoodFor", unfollowed := true, recurses := true, apart := false, narrowed := true }
def FnExactNotStoodForUptoSaid : Prop := fnExactNotStoodForUptoRow.holds Try.pinned (OpenSpec.upto fnExactNotStoodForSpec)

/-- 'laws.FnExactCanLeaveOut', WHERE WHAT IT READS IS OF BULK AT MOST 1048576: true; the input reads as it did. -/
def fnExactCanLeaveOutUptoRow : OpenClaim := { program := "ytakkgagdbmlafaa", sum := "0abcb1bb82c06bb0b0d48ade8db9f342ecc71ccd82da82c74eb184419da0afb5", func := "loop.example/g01031/laws.FnExactCanLeaveOut", spec := "fnExactCanLeaveOut", unfollowed := true, recurses := true, apart := false, narrowed := true }
def FnExactCanLeaveOutUptoSaid : Prop := fnExactCanLeaveOutUptoRow.holds Try.pinned (OpenSpec.upto fnExactCanLeaveOutSpec)

/-- 'laws.FnLeftOut', WHERE WHAT IT READS IS OF BULK AT MOST 1048576: true; the input reads as it did. -/
def fnLeftOutUptoRow : OpenClaim := { program := "ytakkgagdbmlafaa", sum := "0abcb1bb82c06bb0b0d48ade8db9f342ecc71ccd82da82c74eb184419da0afb5", func := "loop.example/g01031/laws.FnLeftOut", spec := "fnLeftOut", unfollowed := true, recurses := true, apart := false, narrowed := true }
def FnLeftOutUptoSaid : Prop := fnLeftOutUptoRow.holds Try.pinned (OpenSpec.upto fnLeftOutSpec)

/-- 'laws.FnExactSelectShoals', WHERE WHAT IT READS IS OF BULK AT MOST 1048576: true; the input reads as it did. -/
def fnExactSelectShoalsUptoRow : OpenClaim := { program := "ytakkgagdbmlafaa", sum := "0abcb1bb82c06bb0b0d48ade8db9f342ecc71ccd82da82c74eb184419da0afb5", func := "loop.example/g01031/laws.FnExactSelectShoals", spec := "fnExactSelectShoals", unfollowed := true, recurses := true, apart := false, narrowed := true }
def FnExactSelectShoalsUptoSaid : Prop := fnExactSelectShoalsUptoRow.holds Try.pinned (OpenSpec.upto fnExactSelectShoalsSpec)

end Rows
end Go.Proofs.Ytakkgagdbmlafaa
