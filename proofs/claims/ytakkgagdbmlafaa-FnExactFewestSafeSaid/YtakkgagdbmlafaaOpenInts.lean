/- Lists of numbers that came in: they are opened. -/
import Derived.Test.YtakkgagdbmlafaaFrame
import Derived.Test.YtakkgagdbmlafaaInts
namespace Go.Proofs.Ytakkgagdbmlafaa
open Go.ChangeShapes Go.WideShapes Go.ChangeAt Go.RowKit Go.Deep
set_option maxRecDepth 100000 in
theorem open_ints {H : Type} {enc : TypeId × Value → H} {W : World} {r : Reach} {b0 : Nat} {sp : Nat → Bool} {held : Bool} {v : Value} {d : DataW H} {p : List MemPlace}
    (hv : Value.okWide Try.prog W r b0 23 v) (h : DataW.Trod enc Try.prog W 0 sp held 23 v d p) :
    ∃ (A : Option Addr) (n c : Nat) (L : Nat → Int), v = .slice A n c ∧ n ≤ 9223372036854775807 ∧ SlI W A n L := by
  obtain ⟨A, n, c, rfl, hnc, hc, hS, _⟩ := open_flat_slice Try.underlying23 (k := 1) (by kernel_rfl) (by decide) (flat_int Try.underlying3) hv h
  unfold maxLen at hc
  refine ⟨A, n, c, fun i => intAt W A (i * 1), rfl, by omega, fun hn => ?_⟩
  obtain ⟨b, off, hA, hbl, hcell⟩ := hS hn
  refine ⟨b, off, hA, hbl, fun i j hi hj => ?_⟩
  rw [hcell i j hi hj]
  obtain rfl : j = 0 := by omega
  rfl
end Go.Proofs.Ytakkgagdbmlafaa
