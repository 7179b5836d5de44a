/- Contracts of the functions on one danger: valid or not; the safe depth over it. -/
import Derived.Test.YtclcgckledbpfaaDoorDangerA
namespace Go.Proofs.YtclcgckledbpfaaDoor
open Go.RowKit
def okD (s : DG) : Bool := inB s.id 1 999 && inB s.kind 0 2 && spotB s.x s.y && inB s.least (-1000) 20000 && inB s.quality 0 2 && inB s.seen 0 10000
theorem okD_bd {s : DG} (h : okD s = true) : (1 ≤ s.id ∧ s.id ≤ 999) ∧ (0 ≤ s.kind ∧ s.kind ≤ 2) ∧ (-1000 ≤ s.least ∧ s.least ≤ 20000) ∧ (0 ≤ s.quality ∧ s.quality ≤ 2) ∧ (0 ≤ s.seen ∧ s.seen ≤ 10000) := by
  simp [okD, inB] at h
  omega
theorem okD_spot {s : DG} (h : okD s = true) : spotB s.x s.y = true := by
  simp only [okD, Bool.and_eq_true] at h
  exact h.1.1.1.2
theorem IsDanger_any (s : DG) (w : World) : Calls Tryd.prog 12 #[.agg #[.int .i64 s.id, .int .i64 s.kind, .int .i64 s.x, .int .i64 s.y, .int .i64 s.least, .int .i64 s.quality, .int .i64 s.seen]] w fun e w' => e = .returned (.bool (okD s)) ∧ Below w.heap.size w w' := by
  go_enter Tryd.func12, Tryd.ntmps12
  go_wp2_with (first | (go_at_call 33; refine (inside_any _ _ _ _).mono ?_; rintro e w' ⟨rfl, rfl⟩) | (go_at_call 34; refine (isDangerKind_any _ _).mono ?_; rintro e w' ⟨rfl, rfl⟩) | (go_at_call 36; refine (isDepth_any _ _).mono ?_; rintro e w' ⟨rfl, rfl⟩) | (go_at_call 37; refine (isTime_any _ _).mono ?_; rintro e w' ⟨rfl, rfl⟩) | (go_at_call 35; refine (IsSpot_any _ _ _).mono ?_; rintro e w1 ⟨rfl, hbw1⟩; obtain ⟨hzw1, hcw1, hfw1⟩ := bfacts hbw1; (try simp at hzw1 hcw1 hfw1); (try (have : w.heap.size < w1.heap.size := by omega)); (try (have : w.heap.size + 1 < w1.heap.size := by omega)); (try (have : w.heap.size + 1 + 1 < w1.heap.size := by omega)); (try (have : w.heap.size + 1 + 1 + 1 < w1.heap.size := by omega))))
  all_goals go_ret
  all_goals refine ⟨ret_bool ?_, ?_⟩
  all_goals first | (simp [okD, *]; done) | skip
  all_goals (repeat' (first | (with_reducible exact Below.refl _ _) | (with_reducible assumption) | (with_reducible refine Below.alloc ?_ ?_ _) | (with_reducible refine Below.drew ?_) | (with_reducible refine Below.setCell ?_ ?_ _) | (with_reducible refine Below.stepB (by assumption) ?_ ?_) | go_size))
theorem l17One_any (s : DG) (w : World) : Calls Tryd.prog 26 #[.agg #[.int .i64 s.id, .int .i64 s.kind, .int .i64 s.x, .int .i64 s.y, .int .i64 s.least, .int .i64 s.quality, .int .i64 s.seen]] w fun e w' => e = .returned (.bool (okD s)) ∧ Below w.heap.size w w' := by
  go_enter Tryd.func26, Tryd.ntmps26
  go_wp2_with (first | (go_at_call 43; refine (l1In_any _ _ _ _).mono ?_; rintro e w' ⟨rfl, rfl⟩) | (go_at_call 49; refine (l17Kind_any _ _).mono ?_; rintro e w' ⟨rfl, rfl⟩) | (go_at_call 51; refine (l2Depth_any _ _).mono ?_; rintro e w' ⟨rfl, rfl⟩) | (go_at_call 52; refine (l2Time_any _ _).mono ?_; rintro e w' ⟨rfl, rfl⟩) | (go_at_call 50; refine (l2Spot_any _ _ _).mono ?_; rintro e w1 ⟨rfl, hbw1⟩; obtain ⟨hzw1, hcw1, hfw1⟩ := bfacts hbw1; (try simp at hzw1 hcw1 hfw1); (try (have : w.heap.size < w1.heap.size := by omega)); (try (have : w.heap.size + 1 < w1.heap.size := by omega)); (try (have : w.heap.size + 1 + 1 < w1.heap.size := by omega)); (try (have : w.heap.size + 1 + 1 + 1 < w1.heap.size := by omega))))
  all_goals go_ret
  all_goals refine ⟨ret_bool ?_, ?_⟩
  all_goals first | (simp [okD, *]; done) | skip
  all_goals (repeat' (first | (with_reducible exact Below.refl _ _) | (with_reducible assumption) | (with_reducible refine Below.alloc ?_ ?_ _) | (with_reducible refine Below.drew ?_) | (with_reducible refine Below.setCell ?_ ?_ _) | (with_reducible refine Below.stepB (by assumption) ?_ ?_) | go_size))
/-- what the quality takes off -/
def lessV (q : Int) : Int := if q = 0 then 0 else if q = 1 then 100 else 300
def safeV (s : DG) : Int := max (s.least - lessV s.quality - (if s.kind = 2 then 200 else 0)) (-1000)
theorem safeOver_any (s : DG) (w : World) (h : okD s = true) : Calls Tryd.prog 31 #[.agg #[.int .i64 s.id, .int .i64 s.kind, .int .i64 s.x, .int .i64 s.y, .int .i64 s.least, .int .i64 s.quality, .int .i64 s.seen]] w fun e w' => e = .returned (.int .i64 (safeV s)) ∧ Below w.heap.size w w' := by
  obtain ⟨⟨_, _⟩, ⟨_, _⟩, ⟨_, _⟩, ⟨_, _⟩, _⟩ := okD_bd h
  clear h
  obtain ⟨id, kind, x, y, least, q, seen⟩ := s
  simp only at *
  have hq : q = 0 ∨ q = 1 ∨ q = 2 := by omega
  have i0 : ∀ w, (Instr.index 76 (.agg #[.int .i64 0, .int .i64 100, .int .i64 300]) (.int .i64 0)).run Tryd.prog w = .ok (.int .i64 0) w := fun _ => by kernel_rfl
  have i1 : ∀ w, (Instr.index 76 (.agg #[.int .i64 0, .int .i64 100, .int .i64 300]) (.int .i64 1)).run Tryd.prog w = .ok (.int .i64 100) w := fun _ => by kernel_rfl
  have i2 : ∀ w, (Instr.index 76 (.agg #[.int .i64 0, .int .i64 100, .int .i64 300]) (.int .i64 2)).run Tryd.prog w = .ok (.int .i64 300) w := fun _ => by kernel_rfl
  rcases hq with rfl | rfl | rfl
  all_goals
    go_enter Tryd.func31, Tryd.ntmps31
    go_wp2
    refine wp_region_later (by kernel_rfl) (by kernel_rfl) (fun hlx => ?_)
    repeat (go_big_quiet_step (fail))
    refine wpQuiet_nil ?_
    clear hlx
    intro w1 hbw1
    obtain ⟨hzw1, hcw1, hfw1⟩ := bfacts hbw1; (try simp at hzw1 hcw1 hfw1); (try (have : w.heap.size < w1.heap.size := by omega)); (try (have : w.heap.size + 1 < w1.heap.size := by omega)); (try (have : w.heap.size + 1 + 1 < w1.heap.size := by omega)); (try (have : w.heap.size + 1 + 1 + 1 < w1.heap.size := by omega))
    go_wp2
    all_goals go_ret
    all_goals refine ⟨ret_int ?_, by repeat' (first | (with_reducible exact Below.refl _ _) | (with_reducible assumption) | (with_reducible refine Below.alloc ?_ ?_ _) | (with_reducible refine Below.drew ?_) | (with_reducible refine Below.setCell ?_ ?_ _) | (with_reducible refine Below.stepB (by assumption) ?_ ?_) | go_size)⟩
    all_goals (rcases (show kind = 2 ∨ kind ≠ 2 by omega) with hk2 | hk2 <;> simp [safeV, lessV, hk2] at * <;> omega)
theorem l1Most_any (a b : Int) (w : World) : Calls Tryd.prog 55 #[.int .i64 a, .int .i64 b] w fun e w' => e = .returned (.int .i64 (max a b)) ∧ w = w' := by
  go_enter Tryd.func55, Tryd.ntmps55
  go_wp2
  all_goals go_ret
  all_goals exact ⟨ret_int (by omega), rfl⟩
theorem l17Safe_any (s : DG) (w : World) (h : okD s = true) : Calls Tryd.prog 32 #[.agg #[.int .i64 s.id, .int .i64 s.kind, .int .i64 s.x, .int .i64 s.y, .int .i64 s.least, .int .i64 s.quality, .int .i64 s.seen]] w fun e w' => e = .returned (.int .i64 (safeV s)) ∧ Below w.heap.size w w' := by
  obtain ⟨⟨_, _⟩, ⟨_, _⟩, ⟨_, _⟩, ⟨_, _⟩, _⟩ := okD_bd h
  clear h
  obtain ⟨id, kind, x, y, least, q, seen⟩ := s
  simp only at *
  have hq : q = 0 ∨ q = 1 ∨ q = 2 := by omega
  rcases hq with rfl | rfl | rfl
  all_goals
    go_enter Tryd.func32, Tryd.ntmps32
    go_wp2
    go_region
    go_wp2_with (go_at_call 55; refine (l1Most_any _ _ _).mono ?_; rintro e w' ⟨rfl, rfl⟩)
    all_goals go_ret
    all_goals refine ⟨ret_int ?_, by repeat' (first | (with_reducible exact Below.refl _ _) | (with_reducible assumption) | (with_reducible refine Below.alloc ?_ ?_ _) | (with_reducible refine Below.drew ?_) | (with_reducible refine Below.setCell ?_ ?_ _) | (with_reducible refine Below.stepB (by assumption) ?_ ?_) | go_size)⟩
    all_goals (rcases (show kind = 2 ∨ kind ≠ 2 by omega) with hk2 | hk2 <;> simp [safeV, lessV, hk2] at * <;> omega)
theorem SafeOver_yes (s : DG) (w : World) (h : okD s = true) : Calls Tryd.prog 10 #[.agg #[.int .i64 s.id, .int .i64 s.kind, .int .i64 s.x, .int .i64 s.y, .int .i64 s.least, .int .i64 s.quality, .int .i64 s.seen]] w fun e w' => e = .returned (.tuple #[.int .i64 (safeV s), .bool true]) ∧ Below w.heap.size w w' := by
  go_enter Tryd.func10, Tryd.ntmps10
  go_wp2_with (first | (go_at_call 12; refine (IsDanger_any s _).mono ?_; rintro e w1 ⟨rfl, hbw1⟩; obtain ⟨hzw1, hcw1, hfw1⟩ := bfacts hbw1; (try simp at hzw1 hcw1 hfw1); (try (have : w.heap.size < w1.heap.size := by omega)); (try (have : w.heap.size + 1 < w1.heap.size := by omega)); (try (have : w.heap.size + 1 + 1 < w1.heap.size := by omega)); (try (have : w.heap.size + 1 + 1 + 1 < w1.heap.size := by omega))) | (go_at_call 31; refine (safeOver_any s _ h).mono ?_; rintro e w2 ⟨rfl, hbw2⟩; obtain ⟨hzw2, hcw2, hfw2⟩ := bfacts hbw2; (try simp at hzw2 hcw2 hfw2); (try (have : w.heap.size < w2.heap.size := by omega)); (try (have : w.heap.size + 1 < w2.heap.size := by omega)); (try (have : w.heap.size + 1 + 1 < w2.heap.size := by omega)); (try (have : w.heap.size + 1 + 1 + 1 < w2.heap.size := by omega))))
  go_returns
  exact ⟨rfl, by repeat' (first | (with_reducible exact Below.refl _ _) | (with_reducible assumption) | (with_reducible refine Below.alloc ?_ ?_ _) | (with_reducible refine Below.drew ?_) | (with_reducible refine Below.setCell ?_ ?_ _) | (with_reducible refine Below.stepB (by assumption) ?_ ?_) | go_size)⟩
theorem SafeOver_no (s : DG) (w : World) (h : okD s = false) : Calls Tryd.prog 10 #[.agg #[.int .i64 s.id, .int .i64 s.kind, .int .i64 s.x, .int .i64 s.y, .int .i64 s.least, .int .i64 s.quality, .int .i64 s.seen]] w fun e w' => e = .returned (.tuple #[.int .i64 0, .bool false]) ∧ Below w.heap.size w w' := by
  go_enter Tryd.func10, Tryd.ntmps10
  go_wp2_with (first | (go_at_call 12; refine (IsDanger_any s _).mono ?_; rintro e w1 ⟨rfl, hbw1⟩; obtain ⟨hzw1, hcw1, hfw1⟩ := bfacts hbw1; (try simp at hzw1 hcw1 hfw1); (try (have : w.heap.size < w1.heap.size := by omega)); (try (have : w.heap.size + 1 < w1.heap.size := by omega)); (try (have : w.heap.size + 1 + 1 < w1.heap.size := by omega)); (try (have : w.heap.size + 1 + 1 + 1 < w1.heap.size := by omega))))
  go_returns
  exact ⟨rfl, by repeat' (first | (with_reducible exact Below.refl _ _) | (with_reducible assumption) | (with_reducible refine Below.alloc ?_ ?_ _) | (with_reducible refine Below.drew ?_) | (with_reducible refine Below.setCell ?_ ?_ _) | (with_reducible refine Below.stepB (by assumption) ?_ ?_) | go_size)⟩
theorem specSafeOver_yes (s : DG) (w : World) (h : okD s = true) : Calls Tryd.prog 11 #[.agg #[.int .i64 s.id, .int .i64 s.kind, .int .i64 s.x, .int .i64 s.y, .int .i64 s.least, .int .i64 s.quality, .int .i64 s.seen]] w fun e w' => e = .returned (.tuple #[.int .i64 (safeV s), .bool true]) ∧ Below w.heap.size w w' := by
  go_enter Tryd.func11, Tryd.ntmps11
  go_wp2_with (first | (go_at_call 26; refine (l17One_any s _).mono ?_; rintro e w1 ⟨rfl, hbw1⟩; obtain ⟨hzw1, hcw1, hfw1⟩ := bfacts hbw1; (try simp at hzw1 hcw1 hfw1); (try (have : w.heap.size < w1.heap.size := by omega)); (try (have : w.heap.size + 1 < w1.heap.size := by omega)); (try (have : w.heap.size + 1 + 1 < w1.heap.size := by omega)); (try (have : w.heap.size + 1 + 1 + 1 < w1.heap.size := by omega))) | (go_at_call 32; refine (l17Safe_any s _ h).mono ?_; rintro e w2 ⟨rfl, hbw2⟩; obtain ⟨hzw2, hcw2, hfw2⟩ := bfacts hbw2; (try simp at hzw2 hcw2 hfw2); (try (have : w.heap.size < w2.heap.size := by omega)); (try (have : w.heap.size + 1 < w2.heap.size := by omega)); (try (have : w.heap.size + 1 + 1 < w2.heap.size := by omega)); (try (have : w.heap.size + 1 + 1 + 1 < w2.heap.size := by omega))))
  go_returns
  exact ⟨rfl, by repeat' (first | (with_reducible exact Below.refl _ _) | (with_reducible assumption) | (with_reducible refine Below.alloc ?_ ?_ _) | (with_reducible refine Below.drew ?_) | (with_reducible refine Below.setCell ?_ ?_ _) | (with_reducible refine Below.stepB (by assumption) ?_ ?_) | go_size)⟩
theorem specSafeOver_no (s : DG) (w : World) (h : okD s = false) : Calls Tryd.prog 11 #[.agg #[.int .i64 s.id, .int .i64 s.kind, .int .i64 s.x, .int .i64 s.y, .int .i64 s.least, .int .i64 s.quality, .int .i64 s.seen]] w fun e w' => e = .returned (.tuple #[.int .i64 0, .bool false]) ∧ Below w.heap.size w w' := by
  go_enter Tryd.func11, Tryd.ntmps11
  go_wp2_with (first | (go_at_call 26; refine (l17One_any s _).mono ?_; rintro e w1 ⟨rfl, hbw1⟩; obtain ⟨hzw1, hcw1, hfw1⟩ := bfacts hbw1; (try simp at hzw1 hcw1 hfw1); (try (have : w.heap.size < w1.heap.size := by omega)); (try (have : w.heap.size + 1 < w1.heap.size := by omega)); (try (have : w.heap.size + 1 + 1 < w1.heap.size := by omega)); (try (have : w.heap.size + 1 + 1 + 1 < w1.heap.size := by omega))))
  go_returns
  exact ⟨rfl, by repeat' (first | (with_reducible exact Below.refl _ _) | (with_reducible assumption) | (with_reducible refine Below.alloc ?_ ?_ _) | (with_reducible refine Below.drew ?_) | (with_reducible refine Below.setCell ?_ ?_ _) | (with_reducible refine Below.stepB (by assumption) ?_ ?_) | go_size)⟩
end Go.Proofs.YtclcgckledbpfaaDoor
