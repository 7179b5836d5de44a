/- A list of samples that came in: it is opened as numbers. -/
import Derived.Test.YtfecepjdjikenaaFrame
import Derived.Test.YtfecepjdjikenaaGood
namespace Go.Proofs.Ytfecepjdjikenaa
open Go.ChangeShapes Go.WideShapes Go.ChangeAt Go.RowKit Go.Deep
set_option maxRecDepth 100000 in
theorem open_lawSamples {H : Type} {enc : TypeId × Value → H} {W : World} {r : Reach} {b0 : Nat} {sp : Nat → Bool} {held : Bool} {v : Value} {d : DataW H} {p : List MemPlace}
    (hv : Value.okWide Try.prog W r b0 37 v) (h : DataW.Trod enc Try.prog W 0 sp held 37 v d p) :
    ∃ (A : Option Addr) (n c : Nat) (f : Nat → BS), v = .slice A n c ∧ n ≤ 9223372036854775807 ∧ SlS W A n f := by
  obtain ⟨A, n, c, rfl, hnc, hc, hS, _⟩ := open_flat_slice Try.underlying37 (k := 6) (by kernel_rfl) (by decide) flat_lawSample hv h
  unfold maxLen at hc
  refine ⟨A, n, c, fun i => ⟨intAt W A (i * 6 + 0), intAt W A (i * 6 + 1), intAt W A (i * 6 + 2), intAt W A (i * 6 + 3), intAt W A (i * 6 + 4), intAt W A (i * 6 + 5)⟩, rfl, by omega, fun hn => ?_⟩
  obtain ⟨b, off, hA, hbl, hcell⟩ := hS hn
  refine ⟨b, off, hA, hbl, fun i j hi hj => ?_⟩
  rw [hcell i j hi hj]
  have : j = 0 ∨ j = 1 ∨ j = 2 ∨ j = 3 ∨ j = 4 ∨ j = 5 := by omega
  rcases this with rfl | rfl | rfl | rfl | rfl | rfl <;> rfl
set_option maxRecDepth 100000 in
theorem open_lawSpot {H : Type} {enc : TypeId × Value → H} {W : World} {base : Nat} {r : Reach} {b0 : Nat} {sp : Nat → Bool} {held : Bool} {v : Value} {d : DataW H} {p : List MemPlace}
    (hv : Value.okWide Try.prog W r b0 23 v) (h : DataW.Trod enc Try.prog W base sp held 23 v d p) :
    ∃ x y : Int, v = .agg #[.int .i64 x, .int .i64 y] := by
  obtain ⟨ns, hn, rfl, _⟩ := open_flat Try.underlying23 flat_lawSpot hv h
  match ns, hn with
  | [a, b], _ => exact ⟨a, b, rfl⟩
end Go.Proofs.Ytfecepjdjikenaa
