/- Contracts of the small functions on spots, depths, times, distances. -/
import Derived.Test.YtfflbkmncnaffaaMem
namespace Go.Proofs.Ytfflbkmncnaffaa
open Go.RowKit
theorem isDepth_any (n : Int) (w : World) : Calls Try.prog 115 #[.int .i64 n] w fun e w' => e = .returned (.bool (inB n (-1000) 20000)) ∧ w = w' := by
  go_enter Try.func115, Try.ntmps115
  go_wp2_with (go_at_call 79; refine (inside_any _ _ _ _).mono ?_; rintro e w' ⟨rfl, rfl⟩)
  go_ret
  exact ⟨rfl, rfl⟩
theorem l2Depth_any (n : Int) (w : World) : Calls Try.prog 117 #[.int .i64 n] w fun e w' => e = .returned (.bool (inB n (-1000) 20000)) ∧ w = w' := by
  go_enter Try.func117, Try.ntmps117
  go_wp2_with (go_at_call 92; refine (l1In_any _ _ _ _).mono ?_; rintro e w' ⟨rfl, rfl⟩)
  go_ret
  exact ⟨rfl, rfl⟩
theorem far_bd {n : Int} (h : inB n 0 2000 = true) : 0 ≤ n * n ∧ n * n ≤ 4000000 := by
  obtain ⟨h1, h2⟩ := inB_iff.1 h
  have := Int.mul_le_mul h2 h2 h1 (by decide)
  exact ⟨Int.mul_nonneg h1 h1, by omega⟩
theorem toSpot_any (x y : Int) (w : World) : Calls Try.prog 15 #[.agg #[.int .i64 x, .int .i64 y]] w fun e w' => e = .returned (.agg #[.int .i64 x, .int .i64 y]) ∧
    (((w.alloc (.cells #[.int .i64 x, .int .i64 y] 23)).alloc (.cells #[.int .i64 x, .int .i64 y] 26)).alloc (.cells #[.int .i64 x, .int .i64 y] 26)) = w' := by
  go_enter Try.func15, Try.ntmps15
  go_wp2
  go_returns
  exact ⟨rfl, rfl⟩
theorem toSpot_bel (x y : Int) (w : World) : Calls Try.prog 15 #[.agg #[.int .i64 x, .int .i64 y]] w fun e w' => e = .returned (.agg #[.int .i64 x, .int .i64 y]) ∧ Below w.heap.size w w' :=
  (toSpot_any x y w).mono fun e w' ⟨he, hw⟩ => by subst hw; exact ⟨he, by repeat' (first | (with_reducible exact Below.refl _ _) | (with_reducible assumption) | (with_reducible refine Below.alloc ?_ ?_ _) | (with_reducible refine Below.drew ?_) | (with_reducible refine Below.setCell ?_ ?_ _) | (with_reducible refine Below.stepB (by assumption) ?_ ?_) | go_size)⟩
theorem eqSpot_same (x y : Int) (w : World) : Calls Try.prog 106 #[.agg #[.int .i64 x, .int .i64 y], .agg #[.int .i64 x, .int .i64 y]] w fun e w' => e = .returned (.bool true) ∧ Below w.heap.size w w' := by
  go_enter Try.func106, Try.ntmps106
  go_wp2
  go_ret
  exact ⟨rfl, by repeat' (first | (with_reducible exact Below.refl _ _) | (with_reducible assumption) | (with_reducible refine Below.alloc ?_ ?_ _) | (with_reducible refine Below.drew ?_) | (with_reducible refine Below.setCell ?_ ?_ _) | (with_reducible refine Below.stepB (by assumption) ?_ ?_) | go_size)⟩
/-- the square of the distance -/
def sqD (a b c d : Int) : Int := (a - c) * (a - c) + (b - d) * (b - d)
theorem sq_bd {a c : Int} (h1 : 0 ≤ a) (h2 : a ≤ 1000) (h3 : 0 ≤ c) (h4 : c ≤ 1000) : 0 ≤ (a - c) * (a - c) ∧ (a - c) * (a - c) ≤ 1000000 := by
  have h : (a - c) * (a - c) = (a - c).natAbs * (a - c).natAbs := (Int.natAbs_mul_self' _).symm
  have h5 : (a - c).natAbs ≤ 1000 := by omega
  have h6 : (a - c).natAbs * (a - c).natAbs ≤ 1000 * 1000 := Nat.mul_le_mul h5 h5
  rw [h]
  omega
theorem sqD_bd {a b c d : Int} (h : spotB a b = true) (k : spotB c d = true) : 0 ≤ sqD a b c d ∧ sqD a b c d ≤ 2000000 := by
  obtain ⟨⟨a1, a2⟩, a3, a4⟩ := spotB_iff.1 h
  obtain ⟨⟨b1, b2⟩, b3, b4⟩ := spotB_iff.1 k
  have m1 := sq_bd a1 a2 b1 b2
  have m2 := sq_bd a3 a4 b3 b4
  unfold sqD
  omega
theorem squareOf_any (a b c d : Int) (w : World) (h : spotB a b = true) (k : spotB c d = true) : Calls Try.prog 112 #[.agg #[.int .i64 a, .int .i64 b], .agg #[.int .i64 c, .int .i64 d]] w
    fun e w' => e = .returned (.int .i64 (sqD a b c d)) ∧ Below w.heap.size w w' := by
  obtain ⟨⟨a1, a2⟩, a3, a4⟩ := spotB_iff.1 h
  obtain ⟨⟨b1, b2⟩, b3, b4⟩ := spotB_iff.1 k
  have m1 := sq_bd a1 a2 b1 b2
  have m2 := sq_bd a3 a4 b3 b4
  clear h k
  go_enter Try.func112, Try.ntmps112
  go_wp2
  
  go_wp2
  go_ret
  exact ⟨rfl, by repeat' (first | (with_reducible exact Below.refl _ _) | (with_reducible assumption) | (with_reducible refine Below.alloc ?_ ?_ _) | (with_reducible refine Below.drew ?_) | (with_reducible refine Below.setCell ?_ ?_ _) | (with_reducible refine Below.stepB (by assumption) ?_ ?_) | go_size)⟩
end Go.Proofs.Ytfflbkmncnaffaa
