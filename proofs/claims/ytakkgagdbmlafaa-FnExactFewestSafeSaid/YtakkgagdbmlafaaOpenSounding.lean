/- Soundings that came in: they are opened as numbers. -/
import Derived.Test.YtakkgagdbmlafaaFrame
import Derived.Test.YtakkgagdbmlafaaSoundingA
namespace Go.Proofs.Ytakkgagdbmlafaa
open Go.ChangeShapes Go.WideShapes Go.ChangeAt Go.RowKit Go.Deep
theorem flat_lawSounding : FlatInt Try.prog 61 5 := flat_struct [(3, 1), (59, 2)] Try.underlying61 (by kernel_rfl) (by kernel_rfl) (by intro tc h; simp at h; rcases h with rfl | rfl; exact flat_int Try.underlying3; exact flat_lawSpot)
set_option maxRecDepth 100000 in
theorem open_lawSounding {H : Type} {enc : TypeId × Value → H} {W : World} {base : Nat} {r : Reach} {b0 : Nat} {sp : Nat → Bool} {held : Bool} {v : Value} {d : DataW H} {p : List MemPlace}
    (hv : Value.okWide Try.prog W r b0 61 v) (h : DataW.Trod enc Try.prog W base sp held 61 v d p) :
    ∃ s : SD, v = .agg #[.int .i64 s.id, .int .i64 s.x, .int .i64 s.y, .int .i64 s.depth, .int .i64 s.doubt] := by
  obtain ⟨ns, hn, rfl, _⟩ := open_flat Try.underlying61 flat_lawSounding hv h
  match ns, hn with
  | [a0, a1, a2, a3, a4], _ => exact ⟨⟨a0, a1, a2, a3, a4⟩, rfl⟩
set_option maxRecDepth 100000 in
theorem open_lawSoundings {H : Type} {enc : TypeId × Value → H} {W : World} {r : Reach} {b0 : Nat} {sp : Nat → Bool} {held : Bool} {v : Value} {d : DataW H} {p : List MemPlace}
    (hv : Value.okWide Try.prog W r b0 22 v) (h : DataW.Trod enc Try.prog W 0 sp held 22 v d p) :
    ∃ (A : Option Addr) (n c : Nat) (f : Nat → SD), v = .slice A n c ∧ n ≤ 9223372036854775807 ∧ SlSD W A n f := by
  obtain ⟨A, n, c, rfl, hnc, hc, hS, _⟩ := open_flat_slice Try.underlying22 (k := 5) (by kernel_rfl) (by decide) flat_lawSounding hv h
  unfold maxLen at hc
  refine ⟨A, n, c, fun i => ⟨intAt W A (i * 5 + 0), intAt W A (i * 5 + 1), intAt W A (i * 5 + 2), intAt W A (i * 5 + 3), intAt W A (i * 5 + 4)⟩, rfl, by omega, fun hn => ?_⟩
  obtain ⟨b, off, hA, hbl, hcell⟩ := hS hn
  refine ⟨b, off, hA, hbl, fun i j hi hj => ?_⟩
  rw [hcell i j hi hj]
  have : j = 0 ∨ j = 1 ∨ j = 2 ∨ j = 3 ∨ j = 4 := by omega
  rcases this with rfl | rfl | rfl | rfl | rfl <;> rfl
end Go.Proofs.Ytakkgagdbmlafaa
