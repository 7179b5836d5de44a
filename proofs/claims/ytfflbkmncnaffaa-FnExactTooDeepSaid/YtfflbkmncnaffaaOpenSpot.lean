/- Spots that came in: they are opened as numbers. -/
import Derived.Test.YtfflbkmncnaffaaFrame
import Derived.Test.YtfflbkmncnaffaaSpotA
namespace Go.Proofs.Ytfflbkmncnaffaa
open Go.ChangeShapes Go.WideShapes Go.ChangeAt Go.RowKit Go.Deep
set_option maxRecDepth 100000 in
theorem open_lawSpots {H : Type} {enc : TypeId × Value → H} {W : World} {r : Reach} {b0 : Nat} {sp : Nat → Bool} {held : Bool} {v : Value} {d : DataW H} {p : List MemPlace}
    (hv : Value.okWide Try.prog W r b0 69 v) (h : DataW.Trod enc Try.prog W 0 sp held 69 v d p) :
    ∃ (A : Option Addr) (n c : Nat) (f : Nat → SP), v = .slice A n c ∧ n ≤ 9223372036854775807 ∧ SlSP W A n f := by
  obtain ⟨A, n, c, rfl, hnc, hc, hS, _⟩ := open_flat_slice Try.underlying69 (k := 2) (by kernel_rfl) (by decide) flat_lawSpot hv h
  unfold maxLen at hc
  refine ⟨A, n, c, fun i => ⟨intAt W A (i * 2 + 0), intAt W A (i * 2 + 1)⟩, rfl, by omega, fun hn => ?_⟩
  obtain ⟨b, off, hA, hbl, hcell⟩ := hS hn
  refine ⟨b, off, hA, hbl, fun i j hi hj => ?_⟩
  rw [hcell i j hi hj]
  have : j = 0 ∨ j = 1 := by omega
  rcases this with rfl | rfl <;> rfl
end Go.Proofs.Ytfflbkmncnaffaa
