/- Contracts: fractions compared; the plain law on a fraction in lowest terms. -/
import Derived.Test.YtfflbkmncnaffaaPlaneC
namespace Go.Proofs.Ytfflbkmncnaffaa
open Go.RowKit
theorem tdiv_of_dvd {x : Int} {g : Nat} (hg : 0 < g) (h : (g : Int) ∣ x) : x = (g : Int) * x.tdiv (g : Int) := by
  obtain ⟨y, rfl⟩ := h
  rw [Int.mul_tdiv_cancel_left y (by omega)]
theorem fr_dvd (x d : Int) : ((Nat.gcd x.natAbs d.natAbs : Nat) : Int) ∣ x ∧ ((Nat.gcd x.natAbs d.natAbs : Nat) : Int) ∣ d :=
  ⟨Int.ofNat_dvd_left.2 (Nat.gcd_dvd_left _ _), Int.ofNat_dvd_left.2 (Nat.gcd_dvd_right _ _)⟩
/-- a fraction in lowest terms is more than l as the one not in lowest terms is -/
theorem fr_more {x d : Int} (hd : 0 < d) (l : Int) : decide (l * frD x d < frN x d) = decide (l * d < x) := by
  have hg : 0 < Nat.gcd x.natAbs d.natAbs := Nat.gcd_pos_of_pos_right _ (by omega)
  obtain ⟨h1, h2⟩ := fr_dvd x d
  have e1 := tdiv_of_dvd hg h1
  have e2 := tdiv_of_dvd hg h2
  unfold frN frD
  generalize Nat.gcd x.natAbs d.natAbs = g at *
  generalize x.tdiv (g : Int) = a at *
  generalize d.tdiv (g : Int) = b at *
  subst e1 e2
  have hg2 : (0 : Int) < g := by omega
  have e3 : l * ((g : Int) * b) = (g : Int) * (l * b) := by rw [← Int.mul_assoc, Int.mul_comm l, Int.mul_assoc]
  rw [e3, Bool.eq_iff_iff, decide_eq_true_eq, decide_eq_true_eq]
  exact ⟨fun h => Int.mul_lt_mul_of_pos_left h hg2, fun h => Int.lt_of_mul_lt_mul_left h (by omega)⟩
def cmpV (a b : Int) : Int := if a < b then -1 else if b < a then 1 else 0
theorem cmpInt_any (a b : Int) (w : World) : Calls Try.prog 121 #[.int .i64 a, .int .i64 b] w fun e w' => e = .returned (.int .i64 (cmpV a b)) ∧ w = w' := by
  by_cases h : a < b
  · have e : cmpV a b = -1 := by rw [cmpV, if_pos h]
    rw [e]
    go_enter Try.func121, Try.ntmps121
    go_wp2_with (go_at_call 136; refine (isNaN_any _ _).mono ?_; rintro e w' ⟨rfl, rfl⟩)
    go_ret
    exact ⟨rfl, rfl⟩
  by_cases h2 : b < a
  · have e : cmpV a b = 1 := by rw [cmpV, if_neg h, if_pos h2]
    rw [e]
    go_enter Try.func121, Try.ntmps121
    go_wp2_with (go_at_call 136; refine (isNaN_any _ _).mono ?_; rintro e w' ⟨rfl, rfl⟩)
    go_ret
    exact ⟨rfl, rfl⟩
  · have e : cmpV a b = 0 := by rw [cmpV, if_neg h, if_neg h2]
    rw [e]
    go_enter Try.func121, Try.ntmps121
    go_wp2_with (go_at_call 136; refine (isNaN_any _ _).mono ?_; rintro e w' ⟨rfl, rfl⟩)
    go_ret
    exact ⟨rfl, rfl⟩
theorem compare_any (a b c d : Int) (w : World) (h1 : -1000000000000000 ≤ a * d ∧ a * d ≤ 1000000000000000) (h2 : -1000000000000000 ≤ c * b ∧ c * b ≤ 1000000000000000) :
    Calls Try.prog 101 #[.agg #[.int .i64 a, .int .i64 b], .agg #[.int .i64 c, .int .i64 d]] w fun e w' => e = .returned (.int .i64 (cmpV (a * d) (c * b))) ∧ Below w.heap.size w w' := by
  have HC := Lib.hid (fun W => cmpInt_any (a * d) (c * b) W)
  have m1 : IntKind.i64.wrap (a * d) = a * d := by rw [IntKind.wrap_i64]; omega
  have m2 : IntKind.i64.wrap (c * b) = c * b := by rw [IntKind.wrap_i64]; omega
  generalize hv : cmpV (a * d) (c * b) = v at HC ⊢
  clear hv h1 h2
  go_enter Try.func101, Try.ntmps101
  go_wp2_with (go_at_call 121; refine (HC.out _).mono ?_; rintro e w1 ⟨rfl, rfl⟩)
  go_ret
  exact ⟨rfl, by repeat' (first | (with_reducible exact Below.refl _ _) | (with_reducible assumption) | (with_reducible refine Below.alloc ?_ ?_ _) | (with_reducible refine Below.drew ?_) | (with_reducible refine Below.setCell ?_ ?_ _) | (with_reducible refine Below.stepB (by assumption) ?_ ?_) | go_size)⟩
end Go.Proofs.Ytfflbkmncnaffaa
