/- Contracts of the functions on one sample: valid or not; its copy. -/
import Derived.Test.YtfecepjdjikenaaLeaf
namespace Go.Proofs.Ytfecepjdjikenaa
open Go.RowKit

/-- a sample's numbers -/
structure BS where
  id : Int
  x : Int
  y : Int
  mud : Int
  sand : Int
  rock : Int
def okS (s : BS) : Bool := inB s.id 1 999 && spotB s.x s.y && inB s.mud 0 100 && inB s.sand 0 100 && inB s.rock 0 100 && decide (s.mud + s.sand + s.rock = 100)

theorem okS_of {s : BS} (h0 : inB s.id 1 999 = true) (h1 : spotB s.x s.y = true) (h2 : inB s.mud 0 100 = true) (h3 : inB s.sand 0 100 = true) (h4 : inB s.rock 0 100 = true) : (wrap64 (wrap64 (s.mud + s.sand) + s.rock) == 100) = okS s := by
  simp only [okS, h0, h1, h2, h3, h4, Bool.true_and]
  simp only [inB_iff] at h2 h3 h4
  rw [i64_id (n := s.mud + s.sand) (by omega) (by omega), i64_id (by omega) (by omega)]
  rfl
theorem IsSample_any (s : BS) (w : World) : Calls Try.prog 17 #[.agg #[.int .i64 s.id, .int .i64 s.x, .int .i64 s.y, .int .i64 s.mud, .int .i64 s.sand, .int .i64 s.rock]] w fun e w' => e = .returned (.bool (okS s)) ∧ Below w.heap.size w w' := by
  go_enter Try.func17, Try.ntmps17
  go_wp2_with (first | (go_at_call 63; refine (inside_any _ _ _ _).mono ?_; rintro e w' ⟨rfl, rfl⟩) | (go_at_call 64; refine (IsSpot_any _ _ _).mono ?_; rintro e w1 ⟨rfl, hbw1⟩; obtain ⟨hzw1, hcw1, hfw1⟩ := bfacts hbw1; (try simp at hzw1 hcw1 hfw1); (try (have : w.heap.size < w1.heap.size := by omega)); (try (have : w.heap.size + 1 < w1.heap.size := by omega)); (try (have : w.heap.size + 1 + 1 < w1.heap.size := by omega)); (try (have : w.heap.size + 1 + 1 + 1 < w1.heap.size := by omega))))
  all_goals go_ret
  all_goals refine ⟨ret_bool ?_, ?_⟩
  all_goals first | (simp [okS, *]; done) | (exact okS_of ‹_› ‹_› ‹_› ‹_› ‹_›) | skip
  all_goals (repeat' (first | (with_reducible exact Below.refl _ _) | (with_reducible assumption) | (with_reducible refine Below.alloc ?_ ?_ _) | (with_reducible refine Below.drew ?_) | (with_reducible refine Below.setCell ?_ ?_ _) | (with_reducible refine Below.stepB (by assumption) ?_ ?_) | go_size))
theorem l18Share_any (n : Int) (w : World) : Calls Try.prog 67 #[.int .i64 n] w fun e w' => e = .returned (.bool (inB n 0 100)) ∧ w = w' := by
  go_enter Try.func67, Try.ntmps67
  go_wp2_with (go_at_call 92; refine (l1In_any _ _ _ _).mono ?_; rintro e w' ⟨rfl, rfl⟩)
  go_ret
  exact ⟨rfl, rfl⟩
theorem l18One_any (s : BS) (w : World) : Calls Try.prog 62 #[.agg #[.int .i64 s.id, .int .i64 s.x, .int .i64 s.y, .int .i64 s.mud, .int .i64 s.sand, .int .i64 s.rock]] w fun e w' => e = .returned (.bool (okS s)) ∧ Below w.heap.size w w' := by
  go_enter Try.func62, Try.ntmps62
  go_wp2_with (first | (go_at_call 92; refine (l1In_any _ _ _ _).mono ?_; rintro e w' ⟨rfl, rfl⟩) | (go_at_call 67; refine (l18Share_any _ _).mono ?_; rintro e w' ⟨rfl, rfl⟩) | (go_at_call 70; refine (l2Spot_any _ _ _).mono ?_; rintro e w1 ⟨rfl, hbw1⟩; obtain ⟨hzw1, hcw1, hfw1⟩ := bfacts hbw1; (try simp at hzw1 hcw1 hfw1); (try (have : w.heap.size < w1.heap.size := by omega)); (try (have : w.heap.size + 1 < w1.heap.size := by omega)); (try (have : w.heap.size + 1 + 1 < w1.heap.size := by omega)); (try (have : w.heap.size + 1 + 1 + 1 < w1.heap.size := by omega))))
  all_goals go_ret
  all_goals refine ⟨ret_bool ?_, ?_⟩
  all_goals first | (simp [okS, *]; done) | (exact okS_of ‹_› ‹_› ‹_› ‹_› ‹_›) | skip
  all_goals (repeat' (first | (with_reducible exact Below.refl _ _) | (with_reducible assumption) | (with_reducible refine Below.alloc ?_ ?_ _) | (with_reducible refine Below.drew ?_) | (with_reducible refine Below.setCell ?_ ?_ _) | (with_reducible refine Below.stepB (by assumption) ?_ ?_) | go_size))
theorem specIsSample_any (s : BS) (w : World) : Calls Try.prog 15 #[.agg #[.int .i64 s.id, .int .i64 s.x, .int .i64 s.y, .int .i64 s.mud, .int .i64 s.sand, .int .i64 s.rock]] w fun e w' => e = .returned (.bool (okS s)) ∧ Below w.heap.size w w' := by
  go_enter Try.func15, Try.ntmps15
  go_wp2_with (go_at_call 62; refine (l18One_any s _).mono ?_; rintro e w1 ⟨rfl, hbw1⟩; obtain ⟨hzw1, hcw1, hfw1⟩ := bfacts hbw1; (try simp at hzw1 hcw1 hfw1); (try (have : w.heap.size < w1.heap.size := by omega)); (try (have : w.heap.size + 1 < w1.heap.size := by omega)); (try (have : w.heap.size + 1 + 1 < w1.heap.size := by omega)); (try (have : w.heap.size + 1 + 1 + 1 < w1.heap.size := by omega)))
  go_ret
  exact ⟨rfl, by repeat' (first | (with_reducible exact Below.refl _ _) | (with_reducible assumption) | (with_reducible refine Below.alloc ?_ ?_ _) | (with_reducible refine Below.drew ?_) | (with_reducible refine Below.setCell ?_ ?_ _) | (with_reducible refine Below.stepB (by assumption) ?_ ?_) | go_size)⟩
theorem toSpot_any (x y : Int) (w : World) : Calls Try.prog 28 #[.agg #[.int .i64 x, .int .i64 y]] w fun e w' => e = .returned (.agg #[.int .i64 x, .int .i64 y]) ∧
    (((w.alloc (.cells #[.int .i64 x, .int .i64 y] 23)).alloc (.cells #[.int .i64 x, .int .i64 y] 27)).alloc (.cells #[.int .i64 x, .int .i64 y] 27)) = w' := by
  go_enter Try.func28, Try.ntmps28
  go_wp2
  go_returns
  exact ⟨rfl, rfl⟩
theorem toSpot_bel (x y : Int) (w : World) : Calls Try.prog 28 #[.agg #[.int .i64 x, .int .i64 y]] w fun e w' => e = .returned (.agg #[.int .i64 x, .int .i64 y]) ∧ Below w.heap.size w w' :=
  (toSpot_any x y w).mono fun e w' ⟨he, hw⟩ => by subst hw; exact ⟨he, by repeat' (first | (with_reducible exact Below.refl _ _) | (with_reducible assumption) | (with_reducible refine Below.alloc ?_ ?_ _) | (with_reducible refine Below.drew ?_) | (with_reducible refine Below.setCell ?_ ?_ _) | (with_reducible refine Below.stepB (by assumption) ?_ ?_) | go_size)⟩
theorem toBottomSample_any (s : BS) (w : World) : Calls Try.prog 16 #[.agg #[.int .i64 s.id, .int .i64 s.x, .int .i64 s.y, .int .i64 s.mud, .int .i64 s.sand, .int .i64 s.rock]] w fun e w' => e = .returned (.agg #[.int .i64 s.id, .int .i64 s.x, .int .i64 s.y, .int .i64 s.mud, .int .i64 s.sand, .int .i64 s.rock]) ∧ Below w.heap.size w w' := by
  go_enter Try.func16, Try.ntmps16
  go_wp2_with (go_at_call 28; refine (toSpot_any _ _ _).mono ?_; rintro e w' ⟨rfl, rfl⟩)
  go_returns
  exact ⟨rfl, by repeat' (first | (with_reducible exact Below.refl _ _) | (with_reducible assumption) | (with_reducible refine Below.alloc ?_ ?_ _) | (with_reducible refine Below.drew ?_) | (with_reducible refine Below.setCell ?_ ?_ _) | (with_reducible refine Below.stepB (by assumption) ?_ ?_) | go_size)⟩
end Go.Proofs.Ytfecepjdjikenaa
