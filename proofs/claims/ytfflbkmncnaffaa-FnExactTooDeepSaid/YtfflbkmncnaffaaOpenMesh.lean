/- Spots and triangles that came in: they are opened as numbers. -/
import Derived.Test.YtfflbkmncnaffaaOpenSpot
import Derived.Test.YtfflbkmncnaffaaTripA
namespace Go.Proofs.Ytfflbkmncnaffaa
open Go.ChangeShapes Go.WideShapes Go.ChangeAt Go.RowKit Go.Deep
theorem flat_trip : FlatInt Try.prog 41 3 := flat_array (n := 3) (k := 1) Try.underlying41 (by kernel_rfl) (by kernel_rfl) (flat_int Try.underlying3)
set_option maxRecDepth 100000 in
theorem open_trips {H : Type} {enc : TypeId × Value → H} {W : World} {r : Reach} {b0 : Nat} {sp : Nat → Bool} {held : Bool} {v : Value} {d : DataW H} {p : List MemPlace}
    (hv : Value.okWide Try.prog W r b0 32 v) (h : DataW.Trod enc Try.prog W 0 sp held 32 v d p) :
    ∃ (A : Option Addr) (n c : Nat) (T : Nat → Nat → Int), v = .slice A n c ∧ n ≤ 9223372036854775807 ∧ SlT W A n T := by
  obtain ⟨A, n, c, rfl, hnc, hc, hS, _⟩ := open_flat_slice Try.underlying32 (k := 3) (by kernel_rfl) (by decide) flat_trip hv h
  unfold maxLen at hc
  exact ⟨A, n, c, fun i j => intAt W A (i * 3 + j), rfl, by omega, hS⟩
end Go.Proofs.Ytfflbkmncnaffaa
