/- A list of samples that came in: it is opened as numbers. -/
import Derived.Test.YtfecepjdjikenaaFrame
import Derived.Test.YtfecepjdjikenaaGood
namespace Go.Proofs.Ytfecepjdjikenaa
open Go.ChangeShapes Go.WideShapes Go.ChangeAt Go.RowKit Go.Deep
theorem flat_lawSample : FlatInt Try.prog 25 6 := flat_struct [(3, 1), (23, 2)] Try.underlying25 (by kernel_rfl) (by kernel_rfl) (by intro tc h; simp at h; rcases h with rfl | rfl; exact flat_int Try.underlying3; exact flat_lawSpot)
set_option maxRecDepth 100000 in
theorem open_lawSample {H : Type} {enc : TypeId × Value → H} {W : World} {base : Nat} {r : Reach} {b0 : Nat} {sp : Nat → Bool} {held : Bool} {v : Value} {d : DataW H} {p : List MemPlace}
    (hv : Value.okWide Try.prog W r b0 25 v) (h : DataW.Trod enc Try.prog W base sp held 25 v d p) :
    ∃ s : BS, v = .agg #[.int .i64 s.id, .int .i64 s.x, .int .i64 s.y, .int .i64 s.mud, .int .i64 s.sand, .int .i64 s.rock] := by
  obtain ⟨ns, hn, rfl, _⟩ := open_flat Try.underlying25 flat_lawSample hv h
  match ns, hn with
  | [a, b, c, d, e, f], _ => exact ⟨⟨a, b, c, d, e, f⟩, rfl⟩
set_option maxRecDepth 100000 in
theorem open_lawSamples {H : Type} {enc : TypeId × Value → H} {W : World} {r : Reach} {b0 : Nat} {sp : Nat → Bool} {held : Bool} {v : Value} {d : DataW H} {p : List MemPlace}
    (hv : Value.okWide Try.prog W r b0 37 v) (h : DataW.Trod enc Try.prog W 0 sp held 37 v d p) :
    ∃ (A : Option Addr) (n c : Nat) (f : Nat → BS), v = .slice A n c ∧ n ≤ 9223372036854775807 ∧ SlS W A n f := by
  obtain ⟨A, n, c, rfl, hnc, hc, hS, _⟩ := open_flat_slice Try.underlying37 (k := 6) (by kernel_rfl) (by decide) flat_lawSample hv h
  unfold maxLen at hc
  refine ⟨A, n, c, fun i => ⟨intAt W A (i * 6 + 0), intAt W A (i * 6 + 1), intAt W A (i * 6 + 2), intAt W A (i * 6 + 3), intAt W A (i * 6 + 4), intAt W A (i * 6 + 5)⟩, rfl, by omega, fun hn => ?_⟩
  obtain ⟨b, off, hA, hbl, hcell⟩ := hS hn
  refine ⟨b, off, hA, hbl, fun i j hi hj => ?_⟩
  rw [hcell i j hi hj]
  have : j = 0 ∨ j = 1 ∨ j = 2 ∨ j = 3 ∨ j = 4 ∨ j = 5 := by omega
  rcases this with rfl | rfl | rfl | rfl | rfl | rfl <;> rfl
end Go.Proofs.Ytfecepjdjikenaa
