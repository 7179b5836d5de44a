/- Dangers that came in: they are opened as numbers. -/
import Derived.Test.YtclcgckledbpfaaDoorFrame
import Derived.Test.YtclcgckledbpfaaDoorDangerA
namespace Go.Proofs.YtclcgckledbpfaaDoor
open Go.ChangeShapes Go.WideShapes Go.ChangeAt Go.RowKit Go.Deep
theorem flat_lawDanger : FlatInt Tryd.prog 25 7 := flat_struct [(3, 1), (23, 2)] Tryd.underlying25 (by kernel_rfl) (by kernel_rfl) (by intro tc h; simp at h; rcases h with rfl | rfl; exact flat_int Tryd.underlying3; exact flat_lawSpot)
set_option maxRecDepth 100000 in
theorem open_lawDanger {H : Type} {enc : TypeId × Value → H} {W : World} {base : Nat} {r : Reach} {b0 : Nat} {sp : Nat → Bool} {held : Bool} {v : Value} {d : DataW H} {p : List MemPlace}
    (hv : Value.okWide Tryd.prog W r b0 25 v) (h : DataW.Trod enc Tryd.prog W base sp held 25 v d p) :
    ∃ s : DG, v = .agg #[.int .i64 s.id, .int .i64 s.kind, .int .i64 s.x, .int .i64 s.y, .int .i64 s.least, .int .i64 s.quality, .int .i64 s.seen] := by
  obtain ⟨ns, hn, rfl, _⟩ := open_flat Tryd.underlying25 flat_lawDanger hv h
  match ns, hn with
  | [a0, a1, a2, a3, a4, a5, a6], _ => exact ⟨⟨a0, a1, a2, a3, a4, a5, a6⟩, rfl⟩
end Go.Proofs.YtclcgckledbpfaaDoor
