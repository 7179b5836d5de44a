/- Contracts of the library's comparison of two numbers. -/
import Derived.Test.YtclcgckledbpfaaLeaf
namespace Go.Proofs.Ytclcgckledbpfaa
open Go.RowKit
theorem isNaN_any (a : Int) (w : World) : Calls Try.prog 86 #[.int .i64 a] w fun e w' => e = .returned (.bool false) ∧ w = w' := by
  go_enter Try.func86, Try.ntmps86
  go_wp2
  go_ret
  exact ⟨ret_bool (by simp), rfl⟩
/-- which of two numbers is the greater -/
def cmpV (a b : Int) : Int := if a < b then -1 else if b < a then 1 else 0
theorem cmpV_lt {a b : Int} : cmpV a b < 0 ↔ a < b := by
  unfold cmpV
  split
  · simp [*]
  · split <;> simp [*]
theorem cmpInt_any (a b : Int) (w : World) : Calls Try.prog 75 #[.int .i64 a, .int .i64 b] w fun e w' => e = .returned (.int .i64 (cmpV a b)) ∧ w = w' := by
  by_cases h : a < b
  · have e : cmpV a b = -1 := by rw [cmpV, if_pos h]
    rw [e]
    go_enter Try.func75, Try.ntmps75
    go_wp2_with (go_at_call 86; refine (isNaN_any _ _).mono ?_; rintro e w' ⟨rfl, rfl⟩)
    go_ret
    exact ⟨rfl, rfl⟩
  by_cases h2 : b < a
  · have e : cmpV a b = 1 := by rw [cmpV, if_neg h, if_pos h2]
    rw [e]
    go_enter Try.func75, Try.ntmps75
    go_wp2_with (go_at_call 86; refine (isNaN_any _ _).mono ?_; rintro e w' ⟨rfl, rfl⟩)
    go_ret
    exact ⟨rfl, rfl⟩
  · have e : cmpV a b = 0 := by rw [cmpV, if_neg h, if_neg h2]
    rw [e]
    go_enter Try.func75, Try.ntmps75
    go_wp2_with (go_at_call 86; refine (isNaN_any _ _).mono ?_; rintro e w' ⟨rfl, rfl⟩)
    go_ret
    exact ⟨rfl, rfl⟩
end Go.Proofs.Ytclcgckledbpfaa
