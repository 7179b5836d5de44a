/- Contracts of the small functions on spots, depths, times, distances. -/
import Derived.Test.YtclcgckledbpfaaDoorMem
namespace Go.Proofs.YtclcgckledbpfaaDoor
open Go.RowKit
theorem isDepth_any (n : Int) (w : World) : Calls Tryd.prog 36 #[.int .i64 n] w fun e w' => e = .returned (.bool (inB n (-1000) 20000)) ∧ w = w' := by
  go_enter Tryd.func36, Tryd.ntmps36
  go_wp2_with (go_at_call 33; refine (inside_any _ _ _ _).mono ?_; rintro e w' ⟨rfl, rfl⟩)
  go_ret
  exact ⟨rfl, rfl⟩
theorem l2Depth_any (n : Int) (w : World) : Calls Tryd.prog 51 #[.int .i64 n] w fun e w' => e = .returned (.bool (inB n (-1000) 20000)) ∧ w = w' := by
  go_enter Tryd.func51, Tryd.ntmps51
  go_wp2_with (go_at_call 43; refine (l1In_any _ _ _ _).mono ?_; rintro e w' ⟨rfl, rfl⟩)
  go_ret
  exact ⟨rfl, rfl⟩
theorem isTime_any (n : Int) (w : World) : Calls Tryd.prog 37 #[.int .i64 n] w fun e w' => e = .returned (.bool (inB n (0) 10000)) ∧ w = w' := by
  go_enter Tryd.func37, Tryd.ntmps37
  go_wp2_with (go_at_call 33; refine (inside_any _ _ _ _).mono ?_; rintro e w' ⟨rfl, rfl⟩)
  go_ret
  exact ⟨rfl, rfl⟩
theorem l2Time_any (n : Int) (w : World) : Calls Tryd.prog 52 #[.int .i64 n] w fun e w' => e = .returned (.bool (inB n (0) 10000)) ∧ w = w' := by
  go_enter Tryd.func52, Tryd.ntmps52
  go_wp2_with (go_at_call 43; refine (l1In_any _ _ _ _).mono ?_; rintro e w' ⟨rfl, rfl⟩)
  go_ret
  exact ⟨rfl, rfl⟩
theorem isDangerKind_any (n : Int) (w : World) : Calls Tryd.prog 34 #[.int .i64 n] w fun e w' => e = .returned (.bool (inB n (0) 2)) ∧ w = w' := by
  go_enter Tryd.func34, Tryd.ntmps34
  go_wp2_with (go_at_call 33; refine (inside_any _ _ _ _).mono ?_; rintro e w' ⟨rfl, rfl⟩)
  go_ret
  exact ⟨rfl, rfl⟩
theorem l17Kind_any (n : Int) (w : World) : Calls Tryd.prog 49 #[.int .i64 n] w fun e w' => e = .returned (.bool (inB n (0) 2)) ∧ w = w' := by
  go_enter Tryd.func49, Tryd.ntmps49
  go_wp2_with (go_at_call 43; refine (l1In_any _ _ _ _).mono ?_; rintro e w' ⟨rfl, rfl⟩)
  go_ret
  exact ⟨rfl, rfl⟩
theorem far_bd {n : Int} (h : inB n 0 2000 = true) : 0 ≤ n * n ∧ n * n ≤ 4000000 := by
  obtain ⟨h1, h2⟩ := inB_iff.1 h
  have := Int.mul_le_mul h2 h2 h1 (by decide)
  exact ⟨Int.mul_nonneg h1 h1, by omega⟩
theorem toSpot_any (x y : Int) (w : World) : Calls Tryd.prog 28 #[.agg #[.int .i64 x, .int .i64 y]] w fun e w' => e = .returned (.agg #[.int .i64 x, .int .i64 y]) ∧
    (((w.alloc (.cells #[.int .i64 x, .int .i64 y] 23)).alloc (.cells #[.int .i64 x, .int .i64 y] 28)).alloc (.cells #[.int .i64 x, .int .i64 y] 28)) = w' := by
  go_enter Tryd.func28, Tryd.ntmps28
  go_wp2
  go_returns
  exact ⟨rfl, rfl⟩
theorem toSpot_bel (x y : Int) (w : World) : Calls Tryd.prog 28 #[.agg #[.int .i64 x, .int .i64 y]] w fun e w' => e = .returned (.agg #[.int .i64 x, .int .i64 y]) ∧ Below w.heap.size w w' :=
  (toSpot_any x y w).mono fun e w' ⟨he, hw⟩ => by subst hw; exact ⟨he, by repeat' (first | (with_reducible exact Below.refl _ _) | (with_reducible assumption) | (with_reducible refine Below.alloc ?_ ?_ _) | (with_reducible refine Below.drew ?_) | (with_reducible refine Below.setCell ?_ ?_ _) | (with_reducible refine Below.stepB (by assumption) ?_ ?_) | go_size)⟩
/-- the square of the distance -/
def sqD (a b c d : Int) : Int := (a - c) * (a - c) + (b - d) * (b - d)
theorem sq_bd {a c : Int} (h1 : 0 ≤ a) (h2 : a ≤ 1000) (h3 : 0 ≤ c) (h4 : c ≤ 1000) : 0 ≤ (a - c) * (a - c) ∧ (a - c) * (a - c) ≤ 1000000 := by
  have h : (a - c) * (a - c) = (a - c).natAbs * (a - c).natAbs := (Int.natAbs_mul_self' _).symm
  have h5 : (a - c).natAbs ≤ 1000 := by omega
  have h6 : (a - c).natAbs * (a - c).natAbs ≤ 1000 * 1000 := Nat.mul_le_mul h5 h5
  rw [h]
  omega
theorem sqD_bd {a b c d : Int} (h : spotB a b = true) (k : spotB c d = true) : 0 ≤ sqD a b c d ∧ sqD a b c d ≤ 2000000 := by
  obtain ⟨⟨a1, a2⟩, a3, a4⟩ := spotB_iff.1 h
  obtain ⟨⟨b1, b2⟩, b3, b4⟩ := spotB_iff.1 k
  have m1 := sq_bd a1 a2 b1 b2
  have m2 := sq_bd a3 a4 b3 b4
  unfold sqD
  omega
end Go.Proofs.YtclcgckledbpfaaDoor
