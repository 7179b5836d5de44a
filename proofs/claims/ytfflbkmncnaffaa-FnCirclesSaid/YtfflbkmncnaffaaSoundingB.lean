/- Contracts of the functions on one sounding: valid or not; its least depth. -/
import Derived.Test.YtfflbkmncnaffaaSoundingA
namespace Go.Proofs.Ytfflbkmncnaffaa
open Go.RowKit
def okN (s : SD) : Bool := inB s.id 1 999 && spotB s.x s.y && inB s.depth (-1000) 20000 && inB s.doubt 0 500
theorem okN_bd {s : SD} (h : okN s = true) : (1 ≤ s.id ∧ s.id ≤ 999) ∧ (0 ≤ s.x ∧ s.x ≤ 1000) ∧ (0 ≤ s.y ∧ s.y ≤ 1000) ∧ (-1000 ≤ s.depth ∧ s.depth ≤ 20000) ∧ (0 ≤ s.doubt ∧ s.doubt ≤ 500) := by
  simp [okN, inB, spotB] at h
  omega
theorem okN_spot {s : SD} (h : okN s = true) : spotB s.x s.y = true := by
  simp only [okN, Bool.and_eq_true] at h
  exact h.1.1.2
/-- the least depth -/
def lowV (s : SD) : Int := s.depth - s.doubt
theorem lowV_bd {s : SD} (h : okN s = true) : -1500 ≤ lowV s ∧ lowV s ≤ 20000 := by
  obtain ⟨_, _, _, _, _⟩ := okN_bd h
  unfold lowV
  omega
theorem IsSounding_any (s : SD) (w : World) : Calls Try.prog 132 #[.agg #[.int .i64 s.id, .int .i64 s.x, .int .i64 s.y, .int .i64 s.depth, .int .i64 s.doubt]] w fun e w' => e = .returned (.bool (okN s)) ∧ Below w.heap.size w w' := by
  go_enter Try.func132, Try.ntmps132
  go_wp2_with (first | (go_at_call 79; refine (inside_any _ _ _ _).mono ?_; rintro e w' ⟨rfl, rfl⟩) | (go_at_call 115; refine (isDepth_any _ _).mono ?_; rintro e w' ⟨rfl, rfl⟩) | (go_at_call 67; refine (IsSpot_any _ _ _).mono ?_; rintro e w1 ⟨rfl, hbw1⟩; obtain ⟨hzw1, hcw1, hfw1⟩ := bfacts hbw1; (try simp at hzw1 hcw1 hfw1); (try (have : w.heap.size < w1.heap.size := by omega)); (try (have : w.heap.size + 1 < w1.heap.size := by omega)); (try (have : w.heap.size + 1 + 1 < w1.heap.size := by omega)); (try (have : w.heap.size + 1 + 1 + 1 < w1.heap.size := by omega))))
  all_goals go_ret
  all_goals refine ⟨ret_bool ?_, ?_⟩
  all_goals first | (simp [okN, *]; done) | skip
  all_goals (repeat' (first | (with_reducible exact Below.refl _ _) | (with_reducible assumption) | (with_reducible refine Below.alloc ?_ ?_ _) | (with_reducible refine Below.drew ?_) | (with_reducible refine Below.setCell ?_ ?_ _) | (with_reducible refine Below.stepB (by assumption) ?_ ?_) | go_size))
theorem l8One_any (s : SD) (w : World) : Calls Try.prog 133 #[.agg #[.int .i64 s.id, .int .i64 s.x, .int .i64 s.y, .int .i64 s.depth, .int .i64 s.doubt]] w fun e w' => e = .returned (.bool (okN s)) ∧ Below w.heap.size w w' := by
  go_enter Try.func133, Try.ntmps133
  go_wp2_with (first | (go_at_call 92; refine (l1In_any _ _ _ _).mono ?_; rintro e w' ⟨rfl, rfl⟩) | (go_at_call 117; refine (l2Depth_any _ _).mono ?_; rintro e w' ⟨rfl, rfl⟩) | (go_at_call 64; refine (l2Spot_any _ _ _).mono ?_; rintro e w1 ⟨rfl, hbw1⟩; obtain ⟨hzw1, hcw1, hfw1⟩ := bfacts hbw1; (try simp at hzw1 hcw1 hfw1); (try (have : w.heap.size < w1.heap.size := by omega)); (try (have : w.heap.size + 1 < w1.heap.size := by omega)); (try (have : w.heap.size + 1 + 1 < w1.heap.size := by omega)); (try (have : w.heap.size + 1 + 1 + 1 < w1.heap.size := by omega))))
  all_goals go_ret
  all_goals refine ⟨ret_bool ?_, ?_⟩
  all_goals first | (simp [okN, *]; done) | skip
  all_goals (repeat' (first | (with_reducible exact Below.refl _ _) | (with_reducible assumption) | (with_reducible refine Below.alloc ?_ ?_ _) | (with_reducible refine Below.drew ?_) | (with_reducible refine Below.setCell ?_ ?_ _) | (with_reducible refine Below.stepB (by assumption) ?_ ?_) | go_size))
theorem leastOf_any (s : SD) (w : World) (h : okN s = true) : Calls Try.prog 102 #[.agg #[.int .i64 s.id, .int .i64 s.x, .int .i64 s.y, .int .i64 s.depth, .int .i64 s.doubt]] w fun e w' => e = .returned (.int .i64 (lowV s)) ∧ Below w.heap.size w w' := by
  obtain ⟨_, _, _, ⟨_, _⟩, _, _⟩ := okN_bd h
  clear h
  go_enter Try.func102, Try.ntmps102
  go_wp2
  go_ret
  exact ⟨ret_int rfl, by repeat' (first | (with_reducible exact Below.refl _ _) | (with_reducible assumption) | (with_reducible refine Below.alloc ?_ ?_ _) | (with_reducible refine Below.drew ?_) | (with_reducible refine Below.setCell ?_ ?_ _) | (with_reducible refine Below.stepB (by assumption) ?_ ?_) | go_size)⟩
theorem l8Low_any (s : SD) (w : World) (h : okN s = true) : Calls Try.prog 104 #[.agg #[.int .i64 s.id, .int .i64 s.x, .int .i64 s.y, .int .i64 s.depth, .int .i64 s.doubt]] w fun e w' => e = .returned (.int .i64 (lowV s)) ∧ Below w.heap.size w w' := by
  obtain ⟨_, _, _, ⟨_, _⟩, _, _⟩ := okN_bd h
  clear h
  go_enter Try.func104, Try.ntmps104
  go_wp2
  go_ret
  exact ⟨ret_int rfl, by repeat' (first | (with_reducible exact Below.refl _ _) | (with_reducible assumption) | (with_reducible refine Below.alloc ?_ ?_ _) | (with_reducible refine Below.drew ?_) | (with_reducible refine Below.setCell ?_ ?_ _) | (with_reducible refine Below.stepB (by assumption) ?_ ?_) | go_size)⟩
end Go.Proofs.Ytfflbkmncnaffaa
