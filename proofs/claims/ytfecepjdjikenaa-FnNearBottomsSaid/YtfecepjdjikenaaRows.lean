/-
  No cell of these rows narrows 'for every input' (looked for: loops, veiled, ifaces, maps, wideKeys, modest, calm, conditions, laid).
  DERIVED. THE GIVEN ROWS OF THIS SEAT. 12 by the template 'for every input the law returns true; each argument reads behind the call as it read before'; 0 by the template 'total and deterministic' (their statements: YtfecepjdjikenaaTotals.lean).
  GIVEN WITH THE SEED: the statements are not yours to turn. If you find one false, say at which input.
  Laid BY PROGRAM, IN A SANDBOX (cutbox-rows.mjs): the forced cells as the released guide's own fill.sh prints them over the translation a5c3b13a10c2d5bf… (all of the seat's roots in one cut). By AI agents, Wed Nov 11 2026. No macro, syntax, notation, axiom, sorry.
-/
import Derived.Test.YtfecepjdjikenaaChecked
import GoSem.Claim
import GoSem.ClaimJoined
import GoSem.ClaimMapViews
import Derived.JoinedTies
import Derived.KernelRfl
namespace Go.Proofs.Ytfecepjdjikenaa
/- THE CELL 'sum', in the pinned program and in every row, IS THE sha256 OF THE DUMP (.gsa) THAT YtfecepjdjikenaaProg.lean LOADS. Nothing in Lean hashes anything: it is a label: what it is worth is what the hold of that sum in a sandbox is worth. -/
noncomputable def Try.pinned : Pinned := { name := "ytfecepjdjikenaa", sum := "a5c3b13a10c2d5bff5c032d9654d894c5e877ea20c581ab15e5a00ce05e60d0a", checked := Try.checked }
namespace Rows
def none {H : Type} : Left H := { results := [], args := [] }

/-- 'laws.FnExactIsSample': WHATEVER THE INPUT: true; the input reads as it did. -/
def fnExactIsSampleSpec : ChangeSpec := { name := "fnExactIsSample", fn := fun _ => fun
  | [d] => { results := [.lit (.bool true)], args := [d] }
  | _ => none }
def fnExactIsSampleRow : OpenClaim := { program := "ytfecepjdjikenaa", sum := "a5c3b13a10c2d5bff5c032d9654d894c5e877ea20c581ab15e5a00ce05e60d0a", func := "loop.example/g01031/laws.FnExactIsSample", spec := "fnExactIsSample", apart := false }
def FnExactIsSampleSaid : Prop := fnExactIsSampleRow.holds Try.pinned (OpenSpec.ofChange fnExactIsSampleSpec)

/-- ITS FALSE NEIGHBOUR: 'it returns false'. Refute it at one input. -/
def fnExactIsSampleWrong : ChangeSpec := { name := "fnExactIsSample", fn := fun _ => fun
  | [d] => { results := [.lit (.bool false)], args := [d] }
  | _ => none }
def FnExactIsSampleWrongFalsely : Prop := fnExactIsSampleRow.holds Try.pinned (OpenSpec.ofChange fnExactIsSampleWrong)

/-- 'laws.FnExactHoldingOf': WHATEVER THE INPUT: true; the input reads as it did. -/
def fnExactHoldingOfSpec : ChangeSpec := { name := "fnExactHoldingOf", fn := fun _ => fun
  | [d] => { results := [.lit (.bool true)], args := [d] }
  | _ => none }
def fnExactHoldingOfRow : OpenClaim := { program := "ytfecepjdjikenaa", sum := "a5c3b13a10c2d5bff5c032d9654d894c5e877ea20c581ab15e5a00ce05e60d0a", func := "loop.example/g01031/laws.FnExactHoldingOf", spec := "fnExactHoldingOf", apart := false }
def FnExactHoldingOfSaid : Prop := fnExactHoldingOfRow.holds Try.pinned (OpenSpec.ofChange fnExactHoldingOfSpec)

/-- ITS FALSE NEIGHBOUR: 'it returns false'. Refute it at one input. -/
def fnExactHoldingOfWrong : ChangeSpec := { name := "fnExactHoldingOf", fn := fun _ => fun
  | [d] => { results := [.lit (.bool false)], args := [d] }
  | _ => none }
def FnExactHoldingOfWrongFalsely : Prop := fnExactHoldingOfRow.holds Try.pinned (OpenSpec.ofChange fnExactHoldingOfWrong)

/-- 'laws.FnExactBlendSamples': WHATEVER THE INPUT: true; the input reads as it did. -/
def fnExactBlendSamplesSpec : ChangeSpec := { name := "fnExactBlendSamples", fn := fun _ => fun
  | [d1, d2, d3] => { results := [.lit (.bool true)], args := [d1, d2, d3] }
  | _ => none }
def fnExactBlendSamplesRow : OpenClaim := { program := "ytfecepjdjikenaa", sum := "a5c3b13a10c2d5bff5c032d9654d894c5e877ea20c581ab15e5a00ce05e60d0a", func := "loop.example/g01031/laws.FnExactBlendSamples", spec := "fnExactBlendSamples", apart := false }
def FnExactBlendSamplesSaid : Prop := fnExactBlendSamplesRow.holds Try.pinned (OpenSpec.ofChange fnExactBlendSamplesSpec)

/-- ITS FALSE NEIGHBOUR: 'it returns false'. Refute it at one input. -/
def fnExactBlendSamplesWrong : ChangeSpec := { name := "fnExactBlendSamples", fn := fun _ => fun
  | [d1, d2, d3] => { results := [.lit (.bool false)], args := [d1, d2, d3] }
  | _ => none }
def FnExactBlendSamplesWrongFalsely : Prop := fnExactBlendSamplesRow.holds Try.pinned (OpenSpec.ofChange fnExactBlendSamplesWrong)

/-- 'laws.FnExactAreSamples': WHATEVER THE INPUT: true; the input reads as it did. -/
def fnExactAreSamplesSpec : ChangeSpec := { name := "fnExactAreSamples", fn := fun _ => fun
  | [d] => { results := [.lit (.bool true)], args := [d] }
  | _ => none }
def fnExactAreSamplesRow : OpenClaim := { program := "ytfecepjdjikenaa", sum := "a5c3b13a10c2d5bff5c032d9654d894c5e877ea20c581ab15e5a00ce05e60d0a", func := "loop.example/g01031/laws.FnExactAreSamples", spec := "fnExactAreSamples", apart := false }
def FnExactAreSamplesSaid : Prop := fnExactAreSamplesRow.holds Try.pinned (OpenSpec.ofChange fnExactAreSamplesSpec)

/-- ITS FALSE NEIGHBOUR: 'it returns false'. Refute it at one input. -/
def fnExactAreSamplesWrong : ChangeSpec := { name := "fnExactAreSamples", fn := fun _ => fun
  | [d] => { results := [.lit (.bool false)], args := [d] }
  | _ => none }
def FnExactAreSamplesWrongFalsely : Prop := fnExactAreSamplesRow.holds Try.pinned (OpenSpec.ofChange fnExactAreSamplesWrong)

/-- 'laws.FnExactNearestSample': WHATEVER THE INPUT: true; the input reads as it did. -/
def fnExactNearestSampleSpec : ChangeSpec := { name := "fnExactNearestSample", fn := fun _ => fun
  | [d1, d2] => { results := [.lit (.bool true)], args := [d1, d2] }
  | _ => none }
def fnExactNearestSampleRow : OpenClaim := { program := "ytfecepjdjikenaa", sum := "a5c3b13a10c2d5bff5c032d9654d894c5e877ea20c581ab15e5a00ce05e60d0a", func := "loop.example/g01031/laws.FnExactNearestSample", spec := "fnExactNearestSample", apart := false }
def FnExactNearestSampleSaid : Prop := fnExactNearestSampleRow.holds Try.pinned (OpenSpec.ofChange fnExactNearestSampleSpec)

/-- ITS FALSE NEIGHBOUR: 'it returns false'. Refute it at one input. -/
def fnExactNearestSampleWrong : ChangeSpec := { name := "fnExactNearestSample", fn := fun _ => fun
  | [d1, d2] => { results := [.lit (.bool false)], args := [d1, d2] }
  | _ => none }
def FnExactNearestSampleWrongFalsely : Prop := fnExactNearestSampleRow.holds Try.pinned (OpenSpec.ofChange fnExactNearestSampleWrong)

/-- 'laws.FnExactMeanBottom': WHATEVER THE INPUT: true; the input reads as it did. -/
def fnExactMeanBottomSpec : ChangeSpec := { name := "fnExactMeanBottom", fn := fun _ => fun
  | [d1, d2, d3] => { results := [.lit (.bool true)], args := [d1, d2, d3] }
  | _ => none }
def fnExactMeanBottomRow : OpenClaim := { program := "ytfecepjdjikenaa", sum := "a5c3b13a10c2d5bff5c032d9654d894c5e877ea20c581ab15e5a00ce05e60d0a", func := "loop.example/g01031/laws.FnExactMeanBottom", spec := "fnExactMeanBottom", apart := false }
def FnExactMeanBottomSaid : Prop := fnExactMeanBottomRow.holds Try.pinned (OpenSpec.ofChange fnExactMeanBottomSpec)

/-- ITS FALSE NEIGHBOUR: 'it returns false'. Refute it at one input. -/
def fnExactMeanBottomWrong : ChangeSpec := { name := "fnExactMeanBottom", fn := fun _ => fun
  | [d1, d2, d3] => { results := [.lit (.bool false)], args := [d1, d2, d3] }
  | _ => none }
def FnExactMeanBottomWrongFalsely : Prop := fnExactMeanBottomRow.holds Try.pinned (OpenSpec.ofChange fnExactMeanBottomWrong)

/-- 'laws.FnExactLettersOf': WHATEVER THE INPUT: true; the input reads as it did. -/
def fnExactLettersOfSpec : ChangeSpec := { name := "fnExactLettersOf", fn := fun _ => fun
  | [d] => { results := [.lit (.bool true)], args := [d] }
  | _ => none }
def fnExactLettersOfRow : OpenClaim := { program := "ytfecepjdjikenaa", sum := "a5c3b13a10c2d5bff5c032d9654d894c5e877ea20c581ab15e5a00ce05e60d0a", func := "loop.example/g01031/laws.FnExactLettersOf", spec := "fnExactLettersOf", unfollowed := true, recurses := true, apart := false }
def FnExactLettersOfSaid : Prop := fnExactLettersOfRow.holds Try.pinned (OpenSpec.ofChange fnExactLettersOfSpec)

/-- ITS FALSE NEIGHBOUR: 'it returns false'. Refute it at one input. -/
def fnExactLettersOfWrong : ChangeSpec := { name := "fnExactLettersOf", fn := fun _ => fun
  | [d] => { results := [.lit (.bool false)], args := [d] }
  | _ => none }
def FnExactLettersOfWrongFalsely : Prop := fnExactLettersOfRow.holds Try.pinned (OpenSpec.ofChange fnExactLettersOfWrong)

/-- 'laws.FnExactAnchorPlaces': WHATEVER THE INPUT: true; the input reads as it did. -/
def fnExactAnchorPlacesSpec : ChangeSpec := { name := "fnExactAnchorPlaces", fn := fun _ => fun
  | [d1, d2] => { results := [.lit (.bool true)], args := [d1, d2] }
  | _ => none }
def fnExactAnchorPlacesRow : OpenClaim := { program := "ytfecepjdjikenaa", sum := "a5c3b13a10c2d5bff5c032d9654d894c5e877ea20c581ab15e5a00ce05e60d0a", func := "loop.example/g01031/laws.FnExactAnchorPlaces", spec := "fnExactAnchorPlaces", unfollowed := true, recurses := true, apart := false }
def FnExactAnchorPlacesSaid : Prop := fnExactAnchorPlacesRow.holds Try.pinned (OpenSpec.ofChange fnExactAnchorPlacesSpec)

/-- ITS FALSE NEIGHBOUR: 'it returns false'. Refute it at one input. -/
def fnExactAnchorPlacesWrong : ChangeSpec := { name := "fnExactAnchorPlaces", fn := fun _ => fun
  | [d1, d2] => { results := [.lit (.bool false)], args := [d1, d2] }
  | _ => none }
def FnExactAnchorPlacesWrongFalsely : Prop := fnExactAnchorPlacesRow.holds Try.pinned (OpenSpec.ofChange fnExactAnchorPlacesWrong)

/-- 'laws.FnExactOddSamples': WHATEVER THE INPUT: true; the input reads as it did. -/
def fnExactOddSamplesSpec : ChangeSpec := { name := "fnExactOddSamples", fn := fun _ => fun
  | [d1, d2] => { results := [.lit (.bool true)], args := [d1, d2] }
  | _ => none }
def fnExactOddSamplesRow : OpenClaim := { program := "ytfecepjdjikenaa", sum := "a5c3b13a10c2d5bff5c032d9654d894c5e877ea20c581ab15e5a00ce05e60d0a", func := "loop.example/g01031/laws.FnExactOddSamples", spec := "fnExactOddSamples", unfollowed := true, recurses := true, apart := false }
def FnExactOddSamplesSaid : Prop := fnExactOddSamplesRow.holds Try.pinned (OpenSpec.ofChange fnExactOddSamplesSpec)

/-- ITS FALSE NEIGHBOUR: 'it returns false'. Refute it at one input. -/
def fnExactOddSamplesWrong : ChangeSpec := { name := "fnExactOddSamples", fn := fun _ => fun
  | [d1, d2] => { results := [.lit (.bool false)], args := [d1, d2] }
  | _ => none }
def FnExactOddSamplesWrongFalsely : Prop := fnExactOddSamplesRow.holds Try.pinned (OpenSpec.ofChange fnExactOddSamplesWrong)

/-- 'laws.FnExactLetterCounts': WHATEVER THE INPUT: true; the input reads as it did. -/
def fnExactLetterCountsSpec : ChangeSpec := { name := "fnExactLetterCounts", fn := fun _ => fun
  | [d] => { results := [.lit (.bool true)], args := [d] }
  | _ => none }
def fnExactLetterCountsRow : OpenClaim := { program := "ytfecepjdjikenaa", sum := "a5c3b13a10c2d5bff5c032d9654d894c5e877ea20c581ab15e5a00ce05e60d0a", func := "loop.example/g01031/laws.FnExactLetterCounts", spec := "fnExactLetterCounts", unfollowed := true, recurses := true, apart := false }
def FnExactLetterCountsSaid : Prop := fnExactLetterCountsRow.holds Try.pinned (OpenSpec.ofChange fnExactLetterCountsSpec)

/-- ITS FALSE NEIGHBOUR: 'it returns false'. Refute it at one input. -/
def fnExactLetterCountsWrong : ChangeSpec := { name := "fnExactLetterCounts", fn := fun _ => fun
  | [d] => { results := [.lit (.bool false)], args := [d] }
  | _ => none }
def FnExactLetterCountsWrongFalsely : Prop := fnExactLetterCountsRow.holds Try.pinned (OpenSpec.ofChange fnExactLetterCountsWrong)

/-- 'laws.FnNearBottoms': WHATEVER THE INPUT: true; the input reads as it did. -/
def fnNearBottomsSpec : ChangeSpec := { name := "fnNearBottoms", fn := fun _ => fun
  | [d] => { results := [.lit (.bool true)], args := [d] }
  | _ => none }
def fnNearBottomsRow : OpenClaim := { program := "ytfecepjdjikenaa", sum := "a5c3b13a10c2d5bff5c032d9654d894c5e877ea20c581ab15e5a00ce05e60d0a", func := "loop.example/g01031/laws.FnNearBottoms", spec := "fnNearBottoms", unfollowed := true, recurses := true, apart := false }
def FnNearBottomsSaid : Prop := fnNearBottomsRow.holds Try.pinned (OpenSpec.ofChange fnNearBottomsSpec)

/-- ITS FALSE NEIGHBOUR: 'it returns false'. Refute it at one input. -/
def fnNearBottomsWrong : ChangeSpec := { name := "fnNearBottoms", fn := fun _ => fun
  | [d] => { results := [.lit (.bool false)], args := [d] }
  | _ => none }
def FnNearBottomsWrongFalsely : Prop := fnNearBottomsRow.holds Try.pinned (OpenSpec.ofChange fnNearBottomsWrong)

/-- 'laws.FnBottoms': WHATEVER THE INPUT: true; the input reads as it did. -/
def fnBottomsSpec : ChangeSpec := { name := "fnBottoms", fn := fun _ => fun
  | [d] => { results := [.lit (.bool true)], args := [d] }
  | _ => none }
def fnBottomsRow : OpenClaim := { program := "ytfecepjdjikenaa", sum := "a5c3b13a10c2d5bff5c032d9654d894c5e877ea20c581ab15e5a00ce05e60d0a", func := "loop.example/g01031/laws.FnBottoms", spec := "fnBottoms", unfollowed := true, recurses := true, apart := false }
def FnBottomsSaid : Prop := fnBottomsRow.holds Try.pinned (OpenSpec.ofChange fnBottomsSpec)

/-- ITS FALSE NEIGHBOUR: 'it returns false'. Refute it at one input. -/
def fnBottomsWrong : ChangeSpec := { name := "fnBottoms", fn := fun _ => fun
  | [d] => { results := [.lit (.bool false)], args := [d] }
  | _ => none }
def FnBottomsWrongFalsely : Prop := fnBottomsRow.holds Try.pinned (OpenSpec.ofChange fnBottomsWrong)

/- THE SECOND FORM. 'bulk': how many values and letters a reading holds, each counted each time it is reached (what is shared counts as often as it is met; a slice's spare places count too). A statement '..UptoSaid' is the law's where the arguments, and the package variables that the reading takes, are together of bulk at most 1048576: NARROWER than '..Said'. Prove '..Said' where nothing that the law and all that it calls make is longer than what came in: it says more and counts as full. Else prove '..UptoSaid'. A law counts once. -/
mutual
def uptoBulk {H : Type} : DataW H → Nat
  | .lit (.string bytes) => bytes.length + 1
  | .lit _ => 1
  | .nil => 1
  | .ptr d => uptoBulk d + 1
  | .slice elems spare => uptoBulkAll elems + uptoBulkAll spare + 1
  | .agg parts => uptoBulkAll parts + 1
  | .iface _ d => uptoBulk d + 1
  | .map entries => uptoBulkEntries entries + 1
  | .held _ => 1
def uptoBulkAll {H : Type} : List (DataW H) → Nat
  | [] => 0
  | d :: r => uptoBulk d + uptoBulkAll r
def uptoBulkEntries {H : Type} : List (Lit × DataW H) → Nat
  | [] => 0
  | x :: r => uptoBulkEntry x + uptoBulkEntries r
def uptoBulkEntry {H : Type} : Lit × DataW H → Nat
  | (.string bytes, d) => bytes.length + uptoBulk d + 1
  | (_, d) => uptoBulk d + 1
 end
def uptoSmall : (H : Type) → List (DataW H) → Bool := fun _ ds => decide (uptoBulkAll ds ≤ 1048576)
def OpenSpec.upto (s : _root_.Go.ChangeSpec) : _root_.Go.OpenSpec := { _root_.Go.OpenSpec.ofChange s with cond := some uptoSmall }

/-- 'laws.FnExactIsSample', WHERE WHAT IT READS IS OF BULK AT MOST 1048576: true; the input reads as it did. -/
def fnExactIsSampleUptoRow : OpenClaim := { program := "ytfecepjdjikenaa", sum := "a5c3b13a10c2d5bff5c032d9654d894c5e877ea20c581ab15e5a00ce05e60d0a", func := "loop.example/g01031/laws.FnExactIsSample", spec := "fnExactIsSample", apart := false, narrowed := true }
def FnExactIsSampleUptoSaid : Prop := fnExactIsSampleUptoRow.holds Try.pinned (OpenSpec.upto fnExactIsSampleSpec)

/-- 'laws.FnExactHoldingOf', WHERE WHAT IT READS IS OF BULK AT MOST 1048576: true; the input reads as it did. -/
def fnExactHoldingOfUptoRow : OpenClaim := { program := "ytfecepjdjikenaa", sum := "a5c3b13a10c2d5bff5c032d9654d894c5e877ea20c581ab15e5a00ce05e60d0a", func := "loop.example/g01031/laws.FnExactHoldingOf", spec := "fnExactHoldingOf", apart := false, narrowed := true }
def FnExactHoldingOfUptoSaid : Prop := fnExactHoldingOfUptoRow.holds Try.pinned (OpenSpec.upto fnExactHoldingOfSpec)

/-- 'laws.FnExactBlendSamples', WHERE WHAT IT READS IS OF BULK AT MOST 1048576: true; the input reads as it did. -/
def fnExactBlendSamplesUptoRow : OpenClaim := { program := "ytfecepjdjikenaa", sum := "a5c3b13a10c2d5bff5c032d9654d894c5e877ea20c581ab15e5a00ce05e60d0a", func := "loop.example/g01031/laws.FnExactBlendSamples", spec := "fnExactBlendSamples", apart := false, narrowed := true }
def FnExactBlendSamplesUptoSaid : Prop := fnExactBlendSamplesUptoRow.holds Try.pinned (OpenSpec.upto fnExactBlendSamplesSpec)

/-- 'laws.FnExactAreSamples', WHERE WHAT IT READS IS OF BULK AT MOST 1048576: true; the input reads as it did. -/
def fnExactAreSamplesUptoRow : OpenClaim := { program := "ytfecepjdjikenaa", sum := "a5c3b13a10c2d5bff5c032d9654d894c5e877ea20c581ab15e5a00ce05e60d0a", func := "loop.example/g01031/laws.FnExactAreSamples", spec := "fnExactAreSamples", apart := false, narrowed := true }
def FnExactAreSamplesUptoSaid : Prop := fnExactAreSamplesUptoRow.holds Try.pinned (OpenSpec.upto fnExactAreSamplesSpec)

/-- 'laws.FnExactNearestSample', WHERE WHAT IT READS IS OF BULK AT MOST 1048576: true; the input reads as it did. -/
def fnExactNearestSampleUptoRow : OpenClaim := { program := "ytfecepjdjikenaa", sum := "a5c3b13a10c2d5bff5c032d9654d894c5e877ea20c581ab15e5a00ce05e60d0a", func := "loop.example/g01031/laws.FnExactNearestSample", spec := "fnExactNearestSample", apart := false, narrowed := true }
def FnExactNearestSampleUptoSaid : Prop := fnExactNearestSampleUptoRow.holds Try.pinned (OpenSpec.upto fnExactNearestSampleSpec)

/-- 'laws.FnExactMeanBottom', WHERE WHAT IT READS IS OF BULK AT MOST 1048576: true; the input reads as it did. -/
def fnExactMeanBottomUptoRow : OpenClaim := { program := "ytfecepjdjikenaa", sum := "a5c3b13a10c2d5bff5c032d9654d894c5e877ea20c581ab15e5a00ce05e60d0a", func := "loop.example/g01031/laws.FnExactMeanBottom", spec := "fnExactMeanBottom", apart := false, narrowed := true }
def FnExactMeanBottomUptoSaid : Prop := fnExactMeanBottomUptoRow.holds Try.pinned (OpenSpec.upto fnExactMeanBottomSpec)

/-- 'laws.FnExactLettersOf', WHERE WHAT IT READS IS OF BULK AT MOST 1048576: true; the input reads as it did. -/
def fnExactLettersOfUptoRow : OpenClaim := { program := "ytfecepjdjikenaa", sum := "a5c3b13a10c2d5bff5c032d9654d894c5e877ea20c581ab15e5a00ce05e60d0a", func := "loop.example/g01031/laws.FnExactLettersOf", spec := "fnExactLettersOf", unfollowed := true, recurses := true, apart := false, narrowed := true }
def FnExactLettersOfUptoSaid : Prop := fnExactLettersOfUptoRow.holds Try.pinned (OpenSpec.upto fnExactLettersOfSpec)

/-- 'laws.FnExactAnchorPlaces', WHERE WHAT IT READS IS OF BULK AT MOST 1048576: true; the input reads as it did. -/
def fnExactAnchorPlacesUptoRow : OpenClaim := { program := "ytfecepjdjikenaa", sum := "a5c3b13a10c2d5bff5c032d9654d894c5e877ea20c581ab15e5a00ce05e60d0a", func := "loop.example/g01031/laws.FnExactAnchorPlaces", spec := "fnExactAnchorPlaces", unfollowed := true, recurses := true, apart := false, narrowed := true }
def FnExactAnchorPlacesUptoSaid : Prop := fnExactAnchorPlacesUptoRow.holds Try.pinned (OpenSpec.upto fnExactAnchorPlacesSpec)

/-- 'laws.FnExactOddSamples', WHERE WHAT IT READS IS OF BULK AT MOST 1048576: true; the input reads as it did. -/
def fnExactOddSamplesUptoRow : OpenClaim := { program := "ytfecepjdjikenaa", sum := "a5c3b13a10c2d5bff5c032d9654d894c5e877ea20c581ab15e5a00ce05e60d0a", func := "loop.example/g01031/laws.FnExactOddSamples", spec := "fnExactOddSamples", unfollowed := true, recurses := true, apart := false, narrowed := true }
def FnExactOddSamplesUptoSaid : Prop := fnExactOddSamplesUptoRow.holds Try.pinned (OpenSpec.upto fnExactOddSamplesSpec)

/-- 'laws.FnExactLetterCounts', WHERE WHAT IT READS IS OF BULK AT MOST 1048576: true; the input reads as it did. -/
def fnExactLetterCountsUptoRow : OpenClaim := { program := "ytfecepjdjikenaa", sum := "a5c3b13a10c2d5bff5c032d9654d894c5e877ea20c581ab15e5a00ce05e60d0a", func := "loop.example/g01031/laws.FnExactLetterCounts", spec := "fnExactLetterCounts", unfollowed := true, recurses := true, apart := false, narrowed := true }
def FnExactLetterCountsUptoSaid : Prop := fnExactLetterCountsUptoRow.holds Try.pinned (OpenSpec.upto fnExactLetterCountsSpec)

/-- 'laws.FnNearBottoms', WHERE WHAT IT READS IS OF BULK AT MOST 1048576: true; the input reads as it did. -/
def fnNearBottomsUptoRow : OpenClaim := { program := "ytfecepjdjikenaa", sum := "a5c3b13a10c2d5bff5c032d9654d894c5e877ea20c581ab15e5a00ce05e60d0a", func := "loop.example/g01031/laws.FnNearBottoms", spec := "fnNearBottoms", unfollowed := true, recurses := true, apart := false, narrowed := true }
def FnNearBottomsUptoSaid : Prop := fnNearBottomsUptoRow.holds Try.pinned (OpenSpec.upto fnNearBottomsSpec)

/-- 'laws.FnBottoms', WHERE WHAT IT READS IS OF BULK AT MOST 1048576: true; the input reads as it did. -/
def fnBottomsUptoRow : OpenClaim := { program := "ytfecepjdjikenaa", sum := "a5c3b13a10c2d5bff5c032d9654d894c5e877ea20c581ab15e5a00ce05e60d0a", func := "loop.example/g01031/laws.FnBottoms", spec := "fnBottoms", unfollowed := true, recurses := true, apart := false, narrowed := true }
def FnBottomsUptoSaid : Prop := fnBottomsUptoRow.holds Try.pinned (OpenSpec.upto fnBottomsSpec)

end Rows
end Go.Proofs.Ytfecepjdjikenaa
