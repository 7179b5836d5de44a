/- Plain Lean: what is picked from 0 .. n - 1, the first index at which something holds, what holds up to n. No program in sight. -/
import Derived.Test.YtbgpmbaonjehbaaLeaf
namespace Go.Proofs.Ytbgpmbaonjehbaa
/-- what is picked of 0 .. k - 1 -/
def pick {α : Type} (p : Nat → Bool) (h : Nat → α) : Nat → List α
  | 0 => []
  | k + 1 => pick p h k ++ (if p k = true then [h k] else [])
theorem pick_hit {α : Type} {p : Nat → Bool} {h : Nat → α} {k : Nat} (hp : p k = true) : pick p h (k + 1) = pick p h k ++ [h k] := by simp [pick, hp]
theorem pick_miss {α : Type} {p : Nat → Bool} {h : Nat → α} {k : Nat} (hp : p k = false) : pick p h (k + 1) = pick p h k := by simp [pick, hp]
theorem pick_len {α : Type} {p : Nat → Bool} {h : Nat → α} : ∀ k, (pick p h k).length ≤ k
  | 0 => by simp [pick]
  | k + 1 => by
    have := pick_len (p := p) (h := h) k
    unfold pick
    split <;> simp <;> omega
theorem pick_congr {α : Type} {p q : Nat → Bool} {h g : Nat → α} : ∀ k, (∀ i, i < k → p i = q i) → (∀ i, i < k → h i = g i) → pick p h k = pick q g k
  | 0, _, _ => rfl
  | k + 1, h1, h2 => by
    unfold pick
    rw [pick_congr k (fun i hi => h1 i (by omega)) (fun i hi => h2 i (by omega)), h1 k (by omega), h2 k (by omega)]
theorem pick_map {α β : Type} {p : Nat → Bool} {h : Nat → α} (g : α → β) : ∀ k, (pick p h k).map g = pick p (fun i => g (h i)) k
  | 0 => rfl
  | k + 1 => by
    unfold pick
    rw [List.map_append, pick_map g k]
    split <;> rfl
theorem pick_mem {α : Type} {p : Nat → Bool} {h : Nat → α} : ∀ {n j : Nat} (d : α), j < (pick p h n).length → ∃ q, q < n ∧ p q = true ∧ (pick p h n).getD j d = h q
  | 0, j, _, hj => absurd hj (by simp [pick])
  | n + 1, j, d, hj => by
    rcases Bool.eq_false_or_eq_true (p n) with hp | hp
    · rw [pick_hit hp] at hj ⊢
      rcases Nat.lt_or_ge j (pick p h n).length with h1 | h1
      · obtain ⟨q, h2, h3, h4⟩ := pick_mem (p := p) (h := h) (n := n) d h1
        exact ⟨q, by omega, h3, by rw [← h4]; simp only [List.getD, List.getElem?_append_left h1]⟩
      · have : j = (pick p h n).length := by simp at hj; omega
        subst this
        exact ⟨n, by omega, hp, by simp [List.getD]⟩
    · rw [pick_miss hp] at hj ⊢
      obtain ⟨q, h2, h3, h4⟩ := pick_mem (p := p) (h := h) (n := n) d hj
      exact ⟨q, by omega, h3, h4⟩
theorem pick_none {α : Type} {p : Nat → Bool} {h : Nat → α} : ∀ {k : Nat}, (pick p h k).length = 0 ↔ ∀ i, i < k → p i = false
  | 0 => by simp [pick]
  | k + 1 => by
    rcases Bool.eq_false_or_eq_true (p k) with hp | hp
    · rw [pick_hit hp]
      constructor
      · intro hh; simp at hh
      · intro hh; rw [hh k (by omega)] at hp; cases hp
    · rw [pick_miss hp, pick_none (k := k)]
      constructor
      · intro hh i hi
        rcases Nat.lt_or_ge i k with h1 | h1
        · exact hh i h1
        · obtain rfl : i = k := by omega
          exact hp
      · exact fun hh i hi => hh i (by omega)
/-- the first index at which p holds, or -1 -/
def idxP (p : Nat → Bool) : Nat → Int
  | 0 => -1
  | k + 1 => if 0 ≤ idxP p k then idxP p k else if p k = true then k else -1
theorem idxP_none {p : Nat → Bool} : ∀ {k : Nat}, (∀ i, i < k → p i = false) → idxP p k = -1
  | 0, _ => rfl
  | k + 1, h => by simp [idxP, idxP_none (k := k) (fun i hi => h i (by omega)), h k (by omega)]
theorem idxP_some {p : Nat → Bool} {k : Nat} (hk : p k = true) (h : ∀ i, i < k → p i = false) : ∀ n, k < n → idxP p n = k
  | 0, h0 => absurd h0 (by omega)
  | n + 1, h0 => by
    rcases Nat.lt_or_ge k n with h1 | h1
    · simp [idxP, idxP_some hk h n h1]
    · obtain rfl : k = n := by omega
      simp [idxP, idxP_none h, hk]
theorem idxP_cases (p : Nat → Bool) : ∀ n, (idxP p n = -1 ∧ ∀ i, i < n → p i = false) ∨ ∃ k, k < n ∧ idxP p n = (k : Int) ∧ p k = true ∧ ∀ i, i < k → p i = false
  | 0 => .inl ⟨rfl, fun i h => absurd h (by omega)⟩
  | n + 1 => by
    rcases idxP_cases p n with ⟨h1, h2⟩ | ⟨k, h1, h2, h3, h4⟩
    · rcases Bool.eq_false_or_eq_true (p n) with hp | hp
      · exact .inr ⟨n, by omega, by simp [idxP, h1, hp], hp, h2⟩
      · refine .inl ⟨by simp [idxP, h1, hp], fun i hi => ?_⟩
        rcases Nat.lt_or_ge i n with h5 | h5
        · exact h2 i h5
        · obtain rfl : i = n := by omega
          exact hp
    · exact .inr ⟨k, by omega, by simp [idxP, h2], h3, h4⟩
theorem idxP_congr {p q : Nat → Bool} : ∀ n, (∀ i, i < n → p i = q i) → idxP p n = idxP q n
  | 0, _ => rfl
  | n + 1, h => by
    unfold idxP
    rw [idxP_congr n (fun i hi => h i (by omega)), h n (by omega)]
def hasP (p : Nat → Bool) (n : Nat) : Bool := decide (0 ≤ idxP p n)
theorem hasP_true {p : Nat → Bool} {n : Nat} : hasP p n = true ↔ ∃ i, i < n ∧ p i = true := by
  unfold hasP
  rcases idxP_cases p n with ⟨h1, h2⟩ | ⟨k, h1, h2, h3, h4⟩
  · rw [h1]
    constructor
    · intro h; simp at h
    · rintro ⟨i, hi, hp⟩; rw [h2 i hi] at hp; cases hp
  · rw [h2]
    exact ⟨fun _ => ⟨k, h1, h3⟩, fun _ => by simp⟩
theorem hasP_false {p : Nat → Bool} {n : Nat} : hasP p n = false ↔ ∀ i, i < n → p i = false := by
  rw [← Bool.not_eq_true, hasP_true]
  constructor
  · intro h i hi
    rcases Bool.eq_false_or_eq_true (p i) with hp | hp
    · exact absurd ⟨i, hi, hp⟩ h
    · exact hp
  · rintro h ⟨i, hi, hp⟩
    rw [h i hi] at hp; cases hp
theorem hasP_congr {p q : Nat → Bool} (n : Nat) (h : ∀ i, i < n → p i = q i) : hasP p n = hasP q n := by rw [hasP, hasP, idxP_congr n h]
theorem hasP_succ (p : Nat → Bool) (n : Nat) : hasP p (n + 1) = (hasP p n || p n) := by
  rw [Bool.eq_iff_iff]
  simp only [Bool.or_eq_true, hasP_true]
  constructor
  · rintro ⟨i, hi, hp⟩
    rcases Nat.lt_or_ge i n with h1 | h1
    · exact .inl ⟨i, h1, hp⟩
    · obtain rfl : i = n := by omega
      exact .inr hp
  · rintro (⟨i, hi, hp⟩ | hp)
    · exact ⟨i, by omega, hp⟩
    · exact ⟨n, by omega, hp⟩
def allUpto (p : Nat → Bool) : Nat → Bool
  | 0 => true
  | k + 1 => allUpto p k && p k
theorem allUpto_not {p : Nat → Bool} {k : Nat} (h : p k = false) : ∀ n, k < n → allUpto p n = false
  | 0, h0 => absurd h0 (by omega)
  | n + 1, h0 => by
    rcases Nat.lt_or_ge k n with h1 | h1
    · simp [allUpto, allUpto_not h n h1]
    · obtain rfl : k = n := by omega
      simp [allUpto, h]
theorem allUpto_lt {p : Nat → Bool} : ∀ {n : Nat}, allUpto p n = true → ∀ k, k < n → p k = true
  | 0, _, k, h => absurd h (by omega)
  | n + 1, hg, k, h => by
    simp only [allUpto, Bool.and_eq_true] at hg
    rcases Nat.lt_or_ge k n with h1 | h1
    · exact allUpto_lt hg.1 k h1
    · obtain rfl : k = n := by omega
      exact hg.2
theorem allUpto_iff {p : Nat → Bool} {n : Nat} : allUpto p n = true ↔ ∀ k, k < n → p k = true := by
  constructor
  · exact fun h => allUpto_lt h
  · intro h
    induction n with
    | zero => rfl
    | succ n ih => simp [allUpto, ih (fun k hk => h k (by omega)), h n (by omega)]
theorem allUpto_hit {p : Nat → Bool} {k : Nat} (h : allUpto p k = true) (hp : p k = true) : allUpto p (k + 1) = true := by simp [allUpto, h, hp]
theorem allUpto_congr {p q : Nat → Bool} : ∀ n, (∀ i, i < n → p i = q i) → allUpto p n = allUpto q n
  | 0, _ => rfl
  | n + 1, h => by
    unfold allUpto
    rw [allUpto_congr n (fun i hi => h i (by omega)), h n (by omega)]
theorem hasP_all {p : Nat → Bool} (n : Nat) : allUpto (fun i => !p i) n = !hasP p n := by
  induction n with
  | zero => rfl
  | succ n ih => rw [hasP_succ, allUpto, ih]; cases hasP p n <;> cases p n <;> rfl
end Go.Proofs.Ytbgpmbaonjehbaa
