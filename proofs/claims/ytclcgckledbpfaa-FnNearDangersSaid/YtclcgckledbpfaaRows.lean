/-
  No cell of these rows narrows 'for every input' (looked for: loops, veiled, ifaces, maps, wideKeys, modest, calm, conditions, laid).
  DERIVED. THE GIVEN ROWS OF THIS SEAT. 10 by the template 'for every input the law returns true; each argument reads behind the call as it read before'; 0 by the template 'total and deterministic' (their statements: YtclcgckledbpfaaTotals.lean).
  GIVEN WITH THE SEED: the statements are not yours to turn. If you find one false, say at which input.
  Laid BY PROGRAM, IN A SANDBOX (cutbox-rows.mjs): the forced cells as the released guide's own fill.sh prints them over the translation a3c6a23c60e008ec… (all of the seat's roots in one cut). By AI agents, Wed Nov 11 2026. No macro, syntax, notation, axiom, sorry.
-/
import Derived.Test.YtclcgckledbpfaaChecked
import GoSem.Claim
import GoSem.ClaimJoined
import GoSem.ClaimMapViews
import Derived.JoinedTies
import Derived.KernelRfl
namespace Go.Proofs.Ytclcgckledbpfaa
/- THE CELL 'sum', in the pinned program and in every row, IS THE sha256 OF THE DUMP (.gsa) THAT YtclcgckledbpfaaProg.lean LOADS. Nothing in Lean hashes anything: it is a label: what it is worth is what the hold of that sum in a sandbox is worth. -/
noncomputable def Try.pinned : Pinned := { name := "ytclcgckledbpfaa", sum := "a3c6a23c60e008ec116bb5588cbb66133d257fb2b14a0162eea60a67eb6223da", checked := Try.checked }
namespace Rows
def none {H : Type} : Left H := { results := [], args := [] }

/-- 'laws.FnExactIsDanger': WHATEVER THE INPUT: true; the input reads as it did. -/
def fnExactIsDangerSpec : ChangeSpec := { name := "fnExactIsDanger", fn := fun _ => fun
  | [d] => { results := [.lit (.bool true)], args := [d] }
  | _ => none }
def fnExactIsDangerRow : OpenClaim := { program := "ytclcgckledbpfaa", sum := "a3c6a23c60e008ec116bb5588cbb66133d257fb2b14a0162eea60a67eb6223da", func := "loop.example/g01031/laws.FnExactIsDanger", spec := "fnExactIsDanger", apart := false }
def FnExactIsDangerSaid : Prop := fnExactIsDangerRow.holds Try.pinned (OpenSpec.ofChange fnExactIsDangerSpec)

/-- ITS FALSE NEIGHBOUR: 'it returns false'. Refute it at one input. -/
def fnExactIsDangerWrong : ChangeSpec := { name := "fnExactIsDanger", fn := fun _ => fun
  | [d] => { results := [.lit (.bool false)], args := [d] }
  | _ => none }
def FnExactIsDangerWrongFalsely : Prop := fnExactIsDangerRow.holds Try.pinned (OpenSpec.ofChange fnExactIsDangerWrong)

/-- 'laws.FnExactSafeOver': WHATEVER THE INPUT: true; the input reads as it did. -/
def fnExactSafeOverSpec : ChangeSpec := { name := "fnExactSafeOver", fn := fun _ => fun
  | [d] => { results := [.lit (.bool true)], args := [d] }
  | _ => none }
def fnExactSafeOverRow : OpenClaim := { program := "ytclcgckledbpfaa", sum := "a3c6a23c60e008ec116bb5588cbb66133d257fb2b14a0162eea60a67eb6223da", func := "loop.example/g01031/laws.FnExactSafeOver", spec := "fnExactSafeOver", apart := false }
def FnExactSafeOverSaid : Prop := fnExactSafeOverRow.holds Try.pinned (OpenSpec.ofChange fnExactSafeOverSpec)

/-- ITS FALSE NEIGHBOUR: 'it returns false'. Refute it at one input. -/
def fnExactSafeOverWrong : ChangeSpec := { name := "fnExactSafeOver", fn := fun _ => fun
  | [d] => { results := [.lit (.bool false)], args := [d] }
  | _ => none }
def FnExactSafeOverWrongFalsely : Prop := fnExactSafeOverRow.holds Try.pinned (OpenSpec.ofChange fnExactSafeOverWrong)

/-- 'laws.FnExactAreDangers': WHATEVER THE INPUT: true; the input reads as it did. -/
def fnExactAreDangersSpec : ChangeSpec := { name := "fnExactAreDangers", fn := fun _ => fun
  | [d] => { results := [.lit (.bool true)], args := [d] }
  | _ => none }
def fnExactAreDangersRow : OpenClaim := { program := "ytclcgckledbpfaa", sum := "a3c6a23c60e008ec116bb5588cbb66133d257fb2b14a0162eea60a67eb6223da", func := "loop.example/g01031/laws.FnExactAreDangers", spec := "fnExactAreDangers", apart := false }
def FnExactAreDangersSaid : Prop := fnExactAreDangersRow.holds Try.pinned (OpenSpec.ofChange fnExactAreDangersSpec)

/-- ITS FALSE NEIGHBOUR: 'it returns false'. Refute it at one input. -/
def fnExactAreDangersWrong : ChangeSpec := { name := "fnExactAreDangers", fn := fun _ => fun
  | [d] => { results := [.lit (.bool false)], args := [d] }
  | _ => none }
def FnExactAreDangersWrongFalsely : Prop := fnExactAreDangersRow.holds Try.pinned (OpenSpec.ofChange fnExactAreDangersWrong)

/-- 'laws.FnExactShallowestOf': WHATEVER THE INPUT: true; the input reads as it did. -/
def fnExactShallowestOfSpec : ChangeSpec := { name := "fnExactShallowestOf", fn := fun _ => fun
  | [d1, d2] => { results := [.lit (.bool true)], args := [d1, d2] }
  | _ => none }
def fnExactShallowestOfRow : OpenClaim := { program := "ytclcgckledbpfaa", sum := "a3c6a23c60e008ec116bb5588cbb66133d257fb2b14a0162eea60a67eb6223da", func := "loop.example/g01031/laws.FnExactShallowestOf", spec := "fnExactShallowestOf", apart := false }
def FnExactShallowestOfSaid : Prop := fnExactShallowestOfRow.holds Try.pinned (OpenSpec.ofChange fnExactShallowestOfSpec)

/-- ITS FALSE NEIGHBOUR: 'it returns false'. Refute it at one input. -/
def fnExactShallowestOfWrong : ChangeSpec := { name := "fnExactShallowestOf", fn := fun _ => fun
  | [d1, d2] => { results := [.lit (.bool false)], args := [d1, d2] }
  | _ => none }
def FnExactShallowestOfWrongFalsely : Prop := fnExactShallowestOfRow.holds Try.pinned (OpenSpec.ofChange fnExactShallowestOfWrong)

/-- 'laws.FnExactOldDangers': WHATEVER THE INPUT: true; the input reads as it did. -/
def fnExactOldDangersSpec : ChangeSpec := { name := "fnExactOldDangers", fn := fun _ => fun
  | [d1, d2, d3] => { results := [.lit (.bool true)], args := [d1, d2, d3] }
  | _ => none }
def fnExactOldDangersRow : OpenClaim := { program := "ytclcgckledbpfaa", sum := "a3c6a23c60e008ec116bb5588cbb66133d257fb2b14a0162eea60a67eb6223da", func := "loop.example/g01031/laws.FnExactOldDangers", spec := "fnExactOldDangers", apart := false }
def FnExactOldDangersSaid : Prop := fnExactOldDangersRow.holds Try.pinned (OpenSpec.ofChange fnExactOldDangersSpec)

/-- ITS FALSE NEIGHBOUR: 'it returns false'. Refute it at one input. -/
def fnExactOldDangersWrong : ChangeSpec := { name := "fnExactOldDangers", fn := fun _ => fun
  | [d1, d2, d3] => { results := [.lit (.bool false)], args := [d1, d2, d3] }
  | _ => none }
def FnExactOldDangersWrongFalsely : Prop := fnExactOldDangersRow.holds Try.pinned (OpenSpec.ofChange fnExactOldDangersWrong)

/-- 'laws.FnExactBlockedFor': WHATEVER THE INPUT: true; the input reads as it did. -/
def fnExactBlockedForSpec : ChangeSpec := { name := "fnExactBlockedFor", fn := fun _ => fun
  | [d1, d2, d3] => { results := [.lit (.bool true)], args := [d1, d2, d3] }
  | _ => none }
def fnExactBlockedForRow : OpenClaim := { program := "ytclcgckledbpfaa", sum := "a3c6a23c60e008ec116bb5588cbb66133d257fb2b14a0162eea60a67eb6223da", func := "loop.example/g01031/laws.FnExactBlockedFor", spec := "fnExactBlockedFor", apart := false }
def FnExactBlockedForSaid : Prop := fnExactBlockedForRow.holds Try.pinned (OpenSpec.ofChange fnExactBlockedForSpec)

/-- ITS FALSE NEIGHBOUR: 'it returns false'. Refute it at one input. -/
def fnExactBlockedForWrong : ChangeSpec := { name := "fnExactBlockedFor", fn := fun _ => fun
  | [d1, d2, d3] => { results := [.lit (.bool false)], args := [d1, d2, d3] }
  | _ => none }
def FnExactBlockedForWrongFalsely : Prop := fnExactBlockedForRow.holds Try.pinned (OpenSpec.ofChange fnExactBlockedForWrong)

/-- 'laws.FnExactSeeAgain': WHATEVER THE INPUT: true; the input reads as it did. -/
def fnExactSeeAgainSpec : ChangeSpec := { name := "fnExactSeeAgain", fn := fun _ => fun
  | [d1, d2, d3, d4, d5] => { results := [.lit (.bool true)], args := [d1, d2, d3, d4, d5] }
  | _ => none }
def fnExactSeeAgainRow : OpenClaim := { program := "ytclcgckledbpfaa", sum := "a3c6a23c60e008ec116bb5588cbb66133d257fb2b14a0162eea60a67eb6223da", func := "loop.example/g01031/laws.FnExactSeeAgain", spec := "fnExactSeeAgain", unfollowed := true, recurses := true, apart := false }
def FnExactSeeAgainSaid : Prop := fnExactSeeAgainRow.holds Try.pinned (OpenSpec.ofChange fnExactSeeAgainSpec)

/-- ITS FALSE NEIGHBOUR: 'it returns false'. Refute it at one input. -/
def fnExactSeeAgainWrong : ChangeSpec := { name := "fnExactSeeAgain", fn := fun _ => fun
  | [d1, d2, d3, d4, d5] => { results := [.lit (.bool false)], args := [d1, d2, d3, d4, d5] }
  | _ => none }
def FnExactSeeAgainWrongFalsely : Prop := fnExactSeeAgainRow.holds Try.pinned (OpenSpec.ofChange fnExactSeeAgainWrong)

/-- 'laws.FnExactClosePairs': WHATEVER THE INPUT: true; the input reads as it did. -/
def fnExactClosePairsSpec : ChangeSpec := { name := "fnExactClosePairs", fn := fun _ => fun
  | [d1, d2] => { results := [.lit (.bool true)], args := [d1, d2] }
  | _ => none }
def fnExactClosePairsRow : OpenClaim := { program := "ytclcgckledbpfaa", sum := "a3c6a23c60e008ec116bb5588cbb66133d257fb2b14a0162eea60a67eb6223da", func := "loop.example/g01031/laws.FnExactClosePairs", spec := "fnExactClosePairs", apart := false }
def FnExactClosePairsSaid : Prop := fnExactClosePairsRow.holds Try.pinned (OpenSpec.ofChange fnExactClosePairsSpec)

/-- ITS FALSE NEIGHBOUR: 'it returns false'. Refute it at one input. -/
def fnExactClosePairsWrong : ChangeSpec := { name := "fnExactClosePairs", fn := fun _ => fun
  | [d1, d2] => { results := [.lit (.bool false)], args := [d1, d2] }
  | _ => none }
def FnExactClosePairsWrongFalsely : Prop := fnExactClosePairsRow.holds Try.pinned (OpenSpec.ofChange fnExactClosePairsWrong)

/-- 'laws.FnExactWithin': WHATEVER THE INPUT: true; the input reads as it did. -/
def fnExactWithinSpec : ChangeSpec := { name := "fnExactWithin", fn := fun _ => fun
  | [d1, d2, d3] => { results := [.lit (.bool true)], args := [d1, d2, d3] }
  | _ => none }
def fnExactWithinRow : OpenClaim := { program := "ytclcgckledbpfaa", sum := "a3c6a23c60e008ec116bb5588cbb66133d257fb2b14a0162eea60a67eb6223da", func := "loop.example/g01031/laws.FnExactWithin", spec := "fnExactWithin", unfollowed := true, recurses := true, apart := false }
def FnExactWithinSaid : Prop := fnExactWithinRow.holds Try.pinned (OpenSpec.ofChange fnExactWithinSpec)

/-- ITS FALSE NEIGHBOUR: 'it returns false'. Refute it at one input. -/
def fnExactWithinWrong : ChangeSpec := { name := "fnExactWithin", fn := fun _ => fun
  | [d1, d2, d3] => { results := [.lit (.bool false)], args := [d1, d2, d3] }
  | _ => none }
def FnExactWithinWrongFalsely : Prop := fnExactWithinRow.holds Try.pinned (OpenSpec.ofChange fnExactWithinWrong)

/-- 'laws.FnNearDangers': WHATEVER THE INPUT: true; the input reads as it did. -/
def fnNearDangersSpec : ChangeSpec := { name := "fnNearDangers", fn := fun _ => fun
  | [d] => { results := [.lit (.bool true)], args := [d] }
  | _ => none }
def fnNearDangersRow : OpenClaim := { program := "ytclcgckledbpfaa", sum := "a3c6a23c60e008ec116bb5588cbb66133d257fb2b14a0162eea60a67eb6223da", func := "loop.example/g01031/laws.FnNearDangers", spec := "fnNearDangers", unfollowed := true, recurses := true, apart := false }
def FnNearDangersSaid : Prop := fnNearDangersRow.holds Try.pinned (OpenSpec.ofChange fnNearDangersSpec)

/-- ITS FALSE NEIGHBOUR: 'it returns false'. Refute it at one input. -/
def fnNearDangersWrong : ChangeSpec := { name := "fnNearDangers", fn := fun _ => fun
  | [d] => { results := [.lit (.bool false)], args := [d] }
  | _ => none }
def FnNearDangersWrongFalsely : Prop := fnNearDangersRow.holds Try.pinned (OpenSpec.ofChange fnNearDangersWrong)

/- THE SECOND FORM. 'bulk': how many values and letters a reading holds, each counted each time it is reached (what is shared counts as often as it is met; a slice's spare places count too). A statement '..UptoSaid' is the law's where the arguments, and the package variables that the reading takes, are together of bulk at most 1048576: NARROWER than '..Said'. Prove '..Said' where nothing that the law and all that it calls make is longer than what came in: it says more and counts as full. Else prove '..UptoSaid'. A law counts once. -/
mutual
def uptoBulk {H : Type} : DataW H → Nat
  | .lit (.string bytes) => bytes.length + 1
  | .lit _ => 1
  | .nil => 1
  | .ptr d => uptoBulk d + 1
  | .slice elems spare => uptoBulkAll elems + uptoBulkAll spare + 1
  | .agg parts => uptoBulkAll parts + 1
  | .iface _ d => uptoBulk d + 1
  | .map entries => uptoBulkEntries entries + 1
  | .held _ => 1
def uptoBulkAll {H : Type} : List (DataW H) → Nat
  | [] => 0
  | d :: r => uptoBulk d + uptoBulkAll r
def uptoBulkEntries {H : Type} : List (Lit × DataW H) → Nat
  | [] => 0
  | x :: r => uptoBulkEntry x + uptoBulkEntries r
def uptoBulkEntry {H : Type} : Lit × DataW H → Nat
  | (.string bytes, d) => bytes.length + uptoBulk d + 1
  | (_, d) => uptoBulk d + 1
 end
def uptoSmall : (H : Type) → List (DataW H) → Bool := fun _ ds => decide (uptoBulkAll ds ≤ 1048576)
def OpenSpec.upto (s : _root_.Go.ChangeSpec) : _root_.Go.OpenSpec := { _root_.Go.OpenSpec.ofChange s with cond := some uptoSmall }

/-- 'laws.FnExactIsDanger', WHERE WHAT IT READS IS OF BULK AT MOST 1048576: true; the input reads as it did. -/
def fnExactIsDangerUptoRow : OpenClaim := { program := "ytclcgckledbpfaa", sum := "a3c6a23c60e008ec116bb5588cbb66133d257fb2b14a0162eea60a67eb6223da", func := "loop.example/g01031/laws.FnExactIsDanger", spec := "fnExactIsDanger", apart := false, narrowed := true }
def FnExactIsDangerUptoSaid : Prop := fnExactIsDangerUptoRow.holds Try.pinned (OpenSpec.upto fnExactIsDangerSpec)

/-- 'laws.FnExactSafeOver', WHERE WHAT IT READS IS OF BULK AT MOST 1048576: true; the input reads as it did. -/
def fnExactSafeOverUptoRow : OpenClaim := { program := "ytclcgckledbpfaa", sum := "a3c6a23c60e008ec116bb5588cbb66133d257fb2b14a0162eea60a67eb6223da", func := "loop.example/g01031/laws.FnExactSafeOver", spec := "fnExactSafeOver", apart := false, narrowed := true }
def FnExactSafeOverUptoSaid : Prop := fnExactSafeOverUptoRow.holds Try.pinned (OpenSpec.upto fnExactSafeOverSpec)

/-- 'laws.FnExactAreDangers', WHERE WHAT IT READS IS OF BULK AT MOST 1048576: true; the input reads as it did. -/
def fnExactAreDangersUptoRow : OpenClaim := { program := "ytclcgckledbpfaa", sum := "a3c6a23c60e008ec116bb5588cbb66133d257fb2b14a0162eea60a67eb6223da", func := "loop.example/g01031/laws.FnExactAreDangers", spec := "fnExactAreDangers", apart := false, narrowed := true }
def FnExactAreDangersUptoSaid : Prop := fnExactAreDangersUptoRow.holds Try.pinned (OpenSpec.upto fnExactAreDangersSpec)

/-- 'laws.FnExactShallowestOf', WHERE WHAT IT READS IS OF BULK AT MOST 1048576: true; the input reads as it did. -/
def fnExactShallowestOfUptoRow : OpenClaim := { program := "ytclcgckledbpfaa", sum := "a3c6a23c60e008ec116bb5588cbb66133d257fb2b14a0162eea60a67eb6223da", func := "loop.example/g01031/laws.FnExactShallowestOf", spec := "fnExactShallowestOf", apart := false, narrowed := true }
def FnExactShallowestOfUptoSaid : Prop := fnExactShallowestOfUptoRow.holds Try.pinned (OpenSpec.upto fnExactShallowestOfSpec)

/-- 'laws.FnExactOldDangers', WHERE WHAT IT READS IS OF BULK AT MOST 1048576: true; the input reads as it did. -/
def fnExactOldDangersUptoRow : OpenClaim := { program := "ytclcgckledbpfaa", sum := "a3c6a23c60e008ec116bb5588cbb66133d257fb2b14a0162eea60a67eb6223da", func := "loop.example/g01031/laws.FnExactOldDangers", spec := "fnExactOldDangers", apart := false, narrowed := true }
def FnExactOldDangersUptoSaid : Prop := fnExactOldDangersUptoRow.holds Try.pinned (OpenSpec.upto fnExactOldDangersSpec)

/-- 'laws.FnExactBlockedFor', WHERE WHAT IT READS IS OF BULK AT MOST 1048576: true; the input reads as it did. -/
def fnExactBlockedForUptoRow : OpenClaim := { program := "ytclcgckledbpfaa", sum := "a3c6a23c60e008ec116bb5588cbb66133d257fb2b14a0162eea60a67eb6223da", func := "loop.example/g01031/laws.FnExactBlockedFor", spec := "fnExactBlockedFor", apart := false, narrowed := true }
def FnExactBlockedForUptoSaid : Prop := fnExactBlockedForUptoRow.holds Try.pinned (OpenSpec.upto fnExactBlockedForSpec)

/-- 'laws.FnExactSeeAgain', WHERE WHAT IT READS IS OF BULK AT MOST 1048576: true; the input reads as it did. -/
def fnExactSeeAgainUptoRow : OpenClaim := { program := "ytclcgckledbpfaa", sum := "a3c6a23c60e008ec116bb5588cbb66133d257fb2b14a0162eea60a67eb6223da", func := "loop.example/g01031/laws.FnExactSeeAgain", spec := "fnExactSeeAgain", unfollowed := true, recurses := true, apart := false, narrowed := true }
def FnExactSeeAgainUptoSaid : Prop := fnExactSeeAgainUptoRow.holds Try.pinned (OpenSpec.upto fnExactSeeAgainSpec)

/-- 'laws.FnExactClosePairs', WHERE WHAT IT READS IS OF BULK AT MOST 1048576: true; the input reads as it did. -/
def fnExactClosePairsUptoRow : OpenClaim := { program := "ytclcgckledbpfaa", sum := "a3c6a23c60e008ec116bb5588cbb66133d257fb2b14a0162eea60a67eb6223da", func := "loop.example/g01031/laws.FnExactClosePairs", spec := "fnExactClosePairs", apart := false, narrowed := true }
def FnExactClosePairsUptoSaid : Prop := fnExactClosePairsUptoRow.holds Try.pinned (OpenSpec.upto fnExactClosePairsSpec)

/-- 'laws.FnExactWithin', WHERE WHAT IT READS IS OF BULK AT MOST 1048576: true; the input reads as it did. -/
def fnExactWithinUptoRow : OpenClaim := { program := "ytclcgckledbpfaa", sum := "a3c6a23c60e008ec116bb5588cbb66133d257fb2b14a0162eea60a67eb6223da", func := "loop.example/g01031/laws.FnExactWithin", spec := "fnExactWithin", unfollowed := true, recurses := true, apart := false, narrowed := true }
def FnExactWithinUptoSaid : Prop := fnExactWithinUptoRow.holds Try.pinned (OpenSpec.upto fnExactWithinSpec)

/-- 'laws.FnNearDangers', WHERE WHAT IT READS IS OF BULK AT MOST 1048576: true; the input reads as it did. -/
def fnNearDangersUptoRow : OpenClaim := { program := "ytclcgckledbpfaa", sum := "a3c6a23c60e008ec116bb5588cbb66133d257fb2b14a0162eea60a67eb6223da", func := "loop.example/g01031/laws.FnNearDangers", spec := "fnNearDangers", unfollowed := true, recurses := true, apart := false, narrowed := true }
def FnNearDangersUptoSaid : Prop := fnNearDangersUptoRow.holds Try.pinned (OpenSpec.upto fnNearDangersSpec)

end Rows
end Go.Proofs.Ytclcgckledbpfaa
