/- Plain Lean: the sort by insertion, on what a list reads as. No program in sight. -/
import Derived.Test.YtclcgckledbpfaaLeaf
namespace Go.Proofs.Ytclcgckledbpfaa
section
variable {α : Type} {lt : α → α → Bool}
/-- the numbers j and j + 1 exchanged -/
def swpF (f : Nat → α) (j : Nat) : Nat → α := fun i => if i = j then f (j + 1) else if i = j + 1 then f j else f i
/-- number k goes down to its place among those ahead of it -/
def insI (lt : α → α → Bool) : Nat → (Nat → α) → (Nat → α)
  | 0, f => f
  | j + 1, f => if lt (f (j + 1)) (f j) = true then insI lt j (swpF f j) else f
/-- the first k sorted -/
def insO (lt : α → α → Bool) (f : Nat → α) : Nat → (Nat → α)
  | 0 => f
  | k + 1 => insI lt k (insO lt f k)
/-- the place of x among the first k of f, sought from above -/
def posF (lt : α → α → Bool) (x : α) (f : Nat → α) : Nat → Nat
  | 0 => 0
  | k + 1 => if lt x (f k) = true then posF lt x f k else k + 1
/-- x laid in at place p -/
def putF (f : Nat → α) (p : Nat) (x : α) : Nat → α := fun i => if i < p then f i else if i = p then x else f (i - 1)
theorem posF_le (x : α) (f : Nat → α) : ∀ k, posF lt x f k ≤ k
  | 0 => Nat.le_refl _
  | k + 1 => by
    have := posF_le x f k
    unfold posF
    split <;> omega
theorem posF_congr {x : α} {f g : Nat → α} : ∀ k, (∀ i, i < k → f i = g i) → posF lt x f k = posF lt x g k
  | 0, _ => rfl
  | k + 1, h => by
    unfold posF
    rw [h k (by omega), posF_congr k (fun i hi => h i (by omega))]
theorem insI_above : ∀ (k : Nat) (f : Nat → α) (i : Nat), k < i → insI lt k f i = f i
  | 0, f, i, _ => rfl
  | k + 1, f, i, h => by
    unfold insI
    split
    · rw [insI_above k _ i (by omega)]
      simp only [swpF]
      rw [if_neg (by omega), if_neg (by omega)]
    · rfl
theorem insI_put : ∀ (k : Nat) (f : Nat → α) (i : Nat), i ≤ k → insI lt k f i = putF f (posF lt (f k) f k) (f k) i
  | 0, f, i, h => by
    obtain rfl : i = 0 := by omega
    simp [insI, putF, posF]
  | k + 1, f, i, h => by
    unfold insI posF
    split
    · rename_i hlt
      have e : posF lt (f (k + 1)) (swpF f k) k = posF lt (f (k + 1)) f k := posF_congr k (fun i hi => by simp only [swpF]; rw [if_neg (by omega), if_neg (by omega)])
      have hp := posF_le (lt := lt) (f (k + 1)) f k
      have ek : swpF f k k = f (k + 1) := by simp [swpF]
      rcases Nat.lt_or_ge k i with h1 | h1
      · obtain rfl : i = k + 1 := by omega
        rw [insI_above _ _ _ (by omega)]
        simp only [putF]
        rw [if_neg (by omega), if_neg (by omega)]
        simp [swpF]
      · rw [insI_put k _ i h1, ek, e]
        simp only [putF]
        by_cases h2 : i < posF lt (f (k + 1)) f k
        · rw [if_pos h2, if_pos h2]
          simp only [swpF]
          rw [if_neg (by omega), if_neg (by omega)]
        · rw [if_neg h2, if_neg h2]
          by_cases h3 : i = posF lt (f (k + 1)) f k
          · rw [if_pos h3, if_pos h3]
          · rw [if_neg h3, if_neg h3]
            simp only [swpF]
            rw [if_neg (by omega), if_neg (by omega)]
    · simp only [putF]
      rcases Nat.lt_or_ge i (k + 1) with h1 | h1
      · rw [if_pos h1]
      · obtain rfl : i = k + 1 := by omega
        rw [if_neg (by omega), if_pos rfl]
theorem insO_above : ∀ (k : Nat) (f : Nat → α) (i : Nat), k ≤ i → insO lt f k i = f i
  | 0, f, i, _ => rfl
  | k + 1, f, i, h => by
    unfold insO
    rw [insI_above _ _ _ (by omega), insO_above k f i (by omega)]
theorem putF_congr {f g : Nat → α} {p : Nat} {x : α} {i : Nat} (h : ∀ j, j < i → f j = g j) (h2 : f i = g i ∨ p ≤ i) : putF f p x i = putF g p x i := by
  simp only [putF]
  by_cases h1 : i < p
  · rw [if_pos h1, if_pos h1]
    rcases h2 with h2 | h2
    · exact h2
    · omega
  · rw [if_neg h1, if_neg h1]
    by_cases h3 : i = p
    · rw [if_pos h3, if_pos h3]
    · rw [if_neg h3, if_neg h3, h (i - 1) (by omega)]
theorem insO_congr {f g : Nat → α} : ∀ (k : Nat), (∀ i, i < k → f i = g i) → ∀ i, i < k → insO lt f k i = insO lt g k i
  | 0, _, i, h => absurd h (by omega)
  | k + 1, hfg, i, h => by
    have ih := insO_congr (f := f) (g := g) k (fun i hi => hfg i (by omega))
    unfold insO
    have ek : insO lt f k k = insO lt g k k := by rw [insO_above _ _ _ (Nat.le_refl _), insO_above _ _ _ (Nat.le_refl _), hfg k (by omega)]
    rw [insI_put k _ i (by omega), insI_put k _ i (by omega), ek, posF_congr k ih]
    refine putF_congr (fun j hj => ih j (by omega)) ?_
    rcases Nat.lt_or_ge i k with h1 | h1
    · exact .inl (ih i h1)
    · exact .inr (Nat.le_trans (posF_le _ _ _) h1)
/-- one more: it is laid in at its place -/
theorem insO_succ (f : Nat → α) (k i : Nat) (h : i ≤ k) : insO lt f (k + 1) i = putF (insO lt f k) (posF lt (f k) (insO lt f k) k) (f k) i := by
  show insI lt k (insO lt f k) i = _
  rw [insI_put k _ i h, insO_above k f k (Nat.le_refl _)]
end
end Go.Proofs.Ytclcgckledbpfaa
