/- Dangers that came in: they are opened as numbers. -/
import Derived.Test.YtclcgckledbpfaaFrame
import Derived.Test.YtclcgckledbpfaaDangerA
namespace Go.Proofs.Ytclcgckledbpfaa
open Go.ChangeShapes Go.WideShapes Go.ChangeAt Go.RowKit Go.Deep
theorem flat_lawDanger : FlatInt Try.prog 25 7 := flat_struct [(3, 1), (23, 2)] Try.underlying25 (by kernel_rfl) (by kernel_rfl) (by intro tc h; simp at h; rcases h with rfl | rfl; exact flat_int Try.underlying3; exact flat_lawSpot)
set_option maxRecDepth 100000 in
theorem open_lawDanger {H : Type} {enc : TypeId × Value → H} {W : World} {base : Nat} {r : Reach} {b0 : Nat} {sp : Nat → Bool} {held : Bool} {v : Value} {d : DataW H} {p : List MemPlace}
    (hv : Value.okWide Try.prog W r b0 25 v) (h : DataW.Trod enc Try.prog W base sp held 25 v d p) :
    ∃ s : DG, v = .agg #[.int .i64 s.id, .int .i64 s.kind, .int .i64 s.x, .int .i64 s.y, .int .i64 s.least, .int .i64 s.quality, .int .i64 s.seen] := by
  obtain ⟨ns, hn, rfl, _⟩ := open_flat Try.underlying25 flat_lawDanger hv h
  match ns, hn with
  | [a0, a1, a2, a3, a4, a5, a6], _ => exact ⟨⟨a0, a1, a2, a3, a4, a5, a6⟩, rfl⟩
set_option maxRecDepth 100000 in
theorem open_lawDangers {H : Type} {enc : TypeId × Value → H} {W : World} {r : Reach} {b0 : Nat} {sp : Nat → Bool} {held : Bool} {v : Value} {d : DataW H} {p : List MemPlace}
    (hv : Value.okWide Try.prog W r b0 34 v) (h : DataW.Trod enc Try.prog W 0 sp held 34 v d p) :
    ∃ (A : Option Addr) (n c : Nat) (f : Nat → DG), v = .slice A n c ∧ n ≤ 9223372036854775807 ∧ SlDG W A n f := by
  obtain ⟨A, n, c, rfl, hnc, hc, hS, _⟩ := open_flat_slice Try.underlying34 (k := 7) (by kernel_rfl) (by decide) flat_lawDanger hv h
  unfold maxLen at hc
  refine ⟨A, n, c, fun i => ⟨intAt W A (i * 7 + 0), intAt W A (i * 7 + 1), intAt W A (i * 7 + 2), intAt W A (i * 7 + 3), intAt W A (i * 7 + 4), intAt W A (i * 7 + 5), intAt W A (i * 7 + 6)⟩, rfl, by omega, fun hn => ?_⟩
  obtain ⟨b, off, hA, hbl, hcell⟩ := hS hn
  refine ⟨b, off, hA, hbl, fun i j hi hj => ?_⟩
  rw [hcell i j hi hj]
  have : j = 0 ∨ j = 1 ∨ j = 2 ∨ j = 3 ∨ j = 4 ∨ j = 5 ∨ j = 6 := by omega
  rcases this with rfl | rfl | rfl | rfl | rfl | rfl | rfl <;> rfl
end Go.Proofs.Ytclcgckledbpfaa
