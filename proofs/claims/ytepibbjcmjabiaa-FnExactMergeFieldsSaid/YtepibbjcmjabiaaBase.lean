/- Contracts of the small functions on spots, depths, times, distances. -/
import Derived.Test.YtepibbjcmjabiaaMem
namespace Go.Proofs.Ytepibbjcmjabiaa
open Go.RowKit
theorem isDepth_any (n : Int) (w : World) : Calls Try.prog 32 #[.int .i64 n] w fun e w' => e = .returned (.bool (inB n (-1000) 20000)) ∧ w = w' := by
  go_enter Try.func32, Try.ntmps32
  go_wp2_with (go_at_call 29; refine (inside_any _ _ _ _).mono ?_; rintro e w' ⟨rfl, rfl⟩)
  go_ret
  exact ⟨rfl, rfl⟩
theorem l2Depth_any (n : Int) (w : World) : Calls Try.prog 44 #[.int .i64 n] w fun e w' => e = .returned (.bool (inB n (-1000) 20000)) ∧ w = w' := by
  go_enter Try.func44, Try.ntmps44
  go_wp2_with (go_at_call 45; refine (l1In_any _ _ _ _).mono ?_; rintro e w' ⟨rfl, rfl⟩)
  go_ret
  exact ⟨rfl, rfl⟩
theorem far_bd {n : Int} (h : inB n 0 2000 = true) : 0 ≤ n * n ∧ n * n ≤ 4000000 := by
  obtain ⟨h1, h2⟩ := inB_iff.1 h
  have := Int.mul_le_mul h2 h2 h1 (by decide)
  exact ⟨Int.mul_nonneg h1 h1, by omega⟩
/-- the square of the distance -/
def sqD (a b c d : Int) : Int := (a - c) * (a - c) + (b - d) * (b - d)
theorem sq_bd {a c : Int} (h1 : 0 ≤ a) (h2 : a ≤ 1000) (h3 : 0 ≤ c) (h4 : c ≤ 1000) : 0 ≤ (a - c) * (a - c) ∧ (a - c) * (a - c) ≤ 1000000 := by
  have h : (a - c) * (a - c) = (a - c).natAbs * (a - c).natAbs := (Int.natAbs_mul_self' _).symm
  have h5 : (a - c).natAbs ≤ 1000 := by omega
  have h6 : (a - c).natAbs * (a - c).natAbs ≤ 1000 * 1000 := Nat.mul_le_mul h5 h5
  rw [h]
  omega
theorem sqD_bd {a b c d : Int} (h : spotB a b = true) (k : spotB c d = true) : 0 ≤ sqD a b c d ∧ sqD a b c d ≤ 2000000 := by
  obtain ⟨⟨a1, a2⟩, a3, a4⟩ := spotB_iff.1 h
  obtain ⟨⟨b1, b2⟩, b3, b4⟩ := spotB_iff.1 k
  have m1 := sq_bd a1 a2 b1 b2
  have m2 := sq_bd a3 a4 b3 b4
  unfold sqD
  omega
end Go.Proofs.Ytepibbjcmjabiaa
