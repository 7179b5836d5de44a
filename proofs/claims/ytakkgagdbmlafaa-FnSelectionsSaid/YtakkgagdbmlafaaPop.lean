/- Contract: the library's count of the bits of a small number. -/
import Derived.Test.YtakkgagdbmlafaaPlain
namespace Go.Proofs.Ytakkgagdbmlafaa
open Go.RowKit
/-- how many of the first k bits are set -/
def cntB (x : Nat) : Nat → Nat
  | 0 => 0
  | k + 1 => cntB x k + (if x.testBit k = true then 1 else 0)
theorem pick_cntB {α : Type} {h : Nat → α} (x : Nat) : ∀ k, (pick (fun i => x.testBit i) h k).length = cntB x k
  | 0 => rfl
  | k + 1 => by
    unfold pick cntB
    rw [List.length_append, pick_cntB x k]
    split <;> rfl
theorem cntB_more {x n : Nat} (h : x < 2 ^ n) : ∀ d, cntB x (n + d) = cntB x n
  | 0 => rfl
  | d + 1 => by
    show cntB x (n + d) + _ = _
    rw [cntB_more h d]
    have h1 : x.testBit (n + d) = false := Nat.testBit_lt_two_pow (Nat.lt_of_lt_of_le h (Nat.pow_le_pow_right (by decide) (by omega)))
    simp [h1]
theorem ones64_any (x : Nat) (hx : x < 1024) (w : World) : Calls Try.prog 98 #[.int .u64 x] w fun e w' => e = .returned (.int .i64 (cntB x 10)) ∧ w = w' := by
  go_enter Try.func98, Try.ntmps98
  go_wp2
  go_ret
  refine ⟨congrArg Ending.returned (congrArg (Value.int .i64) ?_), rfl⟩
  revert x
  decide +kernel
theorem ones_any (x : Nat) (hx : x < 1024) (w : World) : Calls Try.prog 69 #[.int .u64 x] w fun e w' => e = .returned (.int .i64 (cntB x 10)) ∧ w = w' := by
  go_enter Try.func69, Try.ntmps69
  go_wp2_with (go_at_call 98; refine (ones64_any x hx _).mono ?_; rintro e w' ⟨rfl, rfl⟩)
  go_ret
  exact ⟨rfl, rfl⟩
end Go.Proofs.Ytakkgagdbmlafaa
