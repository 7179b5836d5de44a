/- Contracts of the functions on the turn of three spots. -/
import Derived.Test.YtfflbkmncnaffaaBase
namespace Go.Proofs.Ytfflbkmncnaffaa
open Go.RowKit
/-- twice the area of a triangle, positive if it turns to the left -/
def crD (ax ay bx b_y cx cy : Int) : Int := (bx - ax) * (cy - ay) - (b_y - ay) * (cx - ax)
theorem mul_bd {a b M N : Int} (h1 : -M ≤ a) (h2 : a ≤ M) (h3 : -N ≤ b) (h4 : b ≤ N) : -(M * N) ≤ a * b ∧ a * b ≤ M * N := by
  have h5 : a.natAbs ≤ M.toNat := by omega
  have h6 : b.natAbs ≤ N.toNat := by omega
  have h7 := Nat.mul_le_mul h5 h6
  have h8 : (a * b).natAbs ≤ M.toNat * N.toNat := by rw [Int.natAbs_mul]; exact h7
  have h9 : ((M.toNat * N.toNat : Nat) : Int) = M * N := by
    rw [Int.natCast_mul, Int.toNat_of_nonneg (by omega), Int.toNat_of_nonneg (by omega)]
  omega
theorem crD_bd {ax ay bx b_y cx cy : Int} (h : spotB ax ay = true) (k : spotB bx b_y = true) (l : spotB cx cy = true) : -2000000 ≤ crD ax ay bx b_y cx cy ∧ crD ax ay bx b_y cx cy ≤ 2000000 := by
  obtain ⟨⟨a1, a2⟩, a3, a4⟩ := spotB_iff.1 h
  obtain ⟨⟨b1, b2⟩, b3, b4⟩ := spotB_iff.1 k
  obtain ⟨⟨c1, c2⟩, c3, c4⟩ := spotB_iff.1 l
  have m1 := mul_bd (a := bx - ax) (b := cy - ay) (M := 1000) (N := 1000) (by omega) (by omega) (by omega) (by omega)
  have m2 := mul_bd (a := b_y - ay) (b := cx - ax) (M := 1000) (N := 1000) (by omega) (by omega) (by omega) (by omega)
  unfold crD
  omega
theorem crossOf_any (ax ay bx b_y cx cy : Int) (w : World) (h : spotB ax ay = true) (k : spotB bx b_y = true) (l : spotB cx cy = true) :
    Calls Try.prog 68 #[.agg #[.int .i64 ax, .int .i64 ay], .agg #[.int .i64 bx, .int .i64 b_y], .agg #[.int .i64 cx, .int .i64 cy]] w
    fun e w' => e = .returned (.int .i64 (crD ax ay bx b_y cx cy)) ∧ Below w.heap.size w w' := by
  obtain ⟨⟨a1, a2⟩, a3, a4⟩ := spotB_iff.1 h
  obtain ⟨⟨b1, b2⟩, b3, b4⟩ := spotB_iff.1 k
  obtain ⟨⟨c1, c2⟩, c3, c4⟩ := spotB_iff.1 l
  have m1 := mul_bd (a := bx - ax) (b := cy - ay) (M := 1000) (N := 1000) (by omega) (by omega) (by omega) (by omega)
  have m2 := mul_bd (a := b_y - ay) (b := cx - ax) (M := 1000) (N := 1000) (by omega) (by omega) (by omega) (by omega)
  clear h k l
  go_enter Try.func68, Try.ntmps68
  go_wp2
  go_ret
  exact ⟨rfl, by repeat' (first | (with_reducible exact Below.refl _ _) | (with_reducible assumption) | (with_reducible refine Below.alloc ?_ ?_ _) | (with_reducible refine Below.drew ?_) | (with_reducible refine Below.setCell ?_ ?_ _) | (with_reducible refine Below.stepB (by assumption) ?_ ?_) | go_size)⟩
theorem l2Cross_any (ax ay bx b_y cx cy : Int) (w : World) (h : spotB ax ay = true) (k : spotB bx b_y = true) (l : spotB cx cy = true) :
    Calls Try.prog 65 #[.agg #[.int .i64 ax, .int .i64 ay], .agg #[.int .i64 bx, .int .i64 b_y], .agg #[.int .i64 cx, .int .i64 cy]] w
    fun e w' => e = .returned (.int .i64 (crD ax ay bx b_y cx cy)) ∧ Below w.heap.size w w' := by
  obtain ⟨⟨a1, a2⟩, a3, a4⟩ := spotB_iff.1 h
  obtain ⟨⟨b1, b2⟩, b3, b4⟩ := spotB_iff.1 k
  obtain ⟨⟨c1, c2⟩, c3, c4⟩ := spotB_iff.1 l
  have m1 := mul_bd (a := bx - ax) (b := cy - ay) (M := 1000) (N := 1000) (by omega) (by omega) (by omega) (by omega)
  have m2 := mul_bd (a := b_y - ay) (b := cx - ax) (M := 1000) (N := 1000) (by omega) (by omega) (by omega) (by omega)
  clear h k l
  go_enter Try.func65, Try.ntmps65
  go_wp2
  go_ret
  exact ⟨rfl, by repeat' (first | (with_reducible exact Below.refl _ _) | (with_reducible assumption) | (with_reducible refine Below.alloc ?_ ?_ _) | (with_reducible refine Below.drew ?_) | (with_reducible refine Below.setCell ?_ ?_ _) | (with_reducible refine Below.stepB (by assumption) ?_ ?_) | go_size)⟩
end Go.Proofs.Ytfflbkmncnaffaa
