/- Plain Lean: the first index at which something holds. -/
import Derived.Test.YtclcgckledbpfaaDoorLeaf
namespace Go.Proofs.YtclcgckledbpfaaDoor
/-- the first index at which p holds, or -1 -/
def idxP (p : Nat → Bool) : Nat → Int
  | 0 => -1
  | k + 1 => if 0 ≤ idxP p k then idxP p k else if p k = true then k else -1
theorem idxP_none {p : Nat → Bool} : ∀ {k : Nat}, (∀ i, i < k → p i = false) → idxP p k = -1
  | 0, _ => rfl
  | k + 1, h => by simp [idxP, idxP_none (k := k) (fun i hi => h i (by omega)), h k (by omega)]
theorem idxP_some {p : Nat → Bool} {k : Nat} (hk : p k = true) (h : ∀ i, i < k → p i = false) : ∀ n, k < n → idxP p n = k
  | 0, h0 => absurd h0 (by omega)
  | n + 1, h0 => by
    rcases Nat.lt_or_ge k n with h1 | h1
    · simp [idxP, idxP_some hk h n h1]
    · obtain rfl : k = n := by omega
      simp [idxP, idxP_none h, hk]
theorem idxP_cases (p : Nat → Bool) : ∀ n, (idxP p n = -1 ∧ ∀ i, i < n → p i = false) ∨ ∃ k, k < n ∧ idxP p n = (k : Int) ∧ p k = true ∧ ∀ i, i < k → p i = false
  | 0 => .inl ⟨rfl, fun i h => absurd h (by omega)⟩
  | n + 1 => by
    rcases idxP_cases p n with ⟨h1, h2⟩ | ⟨k, h1, h2, h3, h4⟩
    · rcases Bool.eq_false_or_eq_true (p n) with hp | hp
      · exact .inr ⟨n, by omega, by simp [idxP, h1, hp], hp, h2⟩
      · refine .inl ⟨by simp [idxP, h1, hp], fun i hi => ?_⟩
        rcases Nat.lt_or_ge i n with h5 | h5
        · exact h2 i h5
        · obtain rfl : i = n := by omega
          exact hp
    · exact .inr ⟨k, by omega, by simp [idxP, h2], h3, h4⟩
theorem idxP_congr {p q : Nat → Bool} : ∀ n, (∀ i, i < n → p i = q i) → idxP p n = idxP q n
  | 0, _ => rfl
  | n + 1, h => by
    unfold idxP
    rw [idxP_congr n (fun i hi => h i (by omega)), h n (by omega)]
end Go.Proofs.YtclcgckledbpfaaDoor
