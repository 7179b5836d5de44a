/- Plain Lean: how few chosen ones are safe, through all sets of bits, and through ever longer selections. No program in sight. -/
import Derived.Test.YtakkgagdbmlafaaShoT
namespace Go.Proofs.Ytakkgagdbmlafaa
theorem pick_first {α : Type} {p : Nat → Bool} {h : Nat → α} : ∀ n, 0 < (pick p h n).length → ∃ k, k < n ∧ p k = true ∧ (∀ j, j < k → p j = false) ∧ pick p h n = h k :: pick (fun j => p j && decide (k < j)) h n
  | 0, h0 => by simp [pick] at h0
  | n + 1, h0 => by
    rcases Nat.eq_zero_or_pos (pick p h n).length with h1 | h1
    · rcases Bool.eq_false_or_eq_true (p n) with hp | hp
      · refine ⟨n, by omega, hp, pick_none.1 h1, ?_⟩
        have h2 : pick (fun j => p j && decide (n < j)) h (n + 1) = [] := by
          rw [← List.length_eq_zero_iff, pick_none]
          intro i hi
          simp
          intro _
          omega
        rw [h2, pick_hit hp, List.length_eq_zero_iff.1 h1]
        rfl
      · rw [pick_miss hp] at h0; omega
    · obtain ⟨k, hk, hp, hl, e⟩ := pick_first (p := p) (h := h) n h1
      refine ⟨k, by omega, hp, hl, ?_⟩
      rcases Bool.eq_false_or_eq_true (p n) with hn | hn
      · rw [pick_hit hn, pick_hit (p := fun j => p j && decide (k < j)) (by simp [hn, hk]), e]
        simp
      · rw [pick_miss hn, pick_miss (p := fun j => p j && decide (k < j)) (by simp [hn]), e]
theorem pick_cons {α : Type} {p : Nat → Bool} {h : Nat → α} {n k : Nat} (hk : k < n) (hp : ∀ j, p j = true → k + 1 ≤ j) : pick (fun j => (j == k) || p j) h n = h k :: pick p h n := by
  have h0 : 0 < (pick (fun j => (j == k) || p j) h n).length := by
    rcases Nat.eq_zero_or_pos (pick (fun j => (j == k) || p j) h n).length with h1 | h1
    · have := pick_none.1 h1 k hk
      simp at this
    · exact h1
  obtain ⟨q, hq, h1, h2, e⟩ := pick_first n h0
  have : q = k := by
    have h3 : ¬ k < q := fun hlt => by have := h2 k hlt; simp at this
    simp only [Bool.or_eq_true, beq_iff_eq] at h1
    rcases h1 with h1 | h1
    · exact h1
    · have := hp q h1; omega
  subst this
  rw [e]
  congr 1
  refine pick_congr n (fun i _ => ?_) (fun _ _ => rfl)
  rw [Bool.eq_iff_iff]
  simp only [Bool.and_eq_true, Bool.or_eq_true, beq_iff_eq, decide_eq_true_eq]
  constructor
  · rintro ⟨h3 | h3, h4⟩
    · omega
    · exact h3
  · intro h3
    exact ⟨.inr h3, by have := hp i h3; omega⟩
theorem bits_of (p : Nat → Bool) : ∀ n, ∃ s, s < 2 ^ n ∧ ∀ i, i < n → s.testBit i = p i
  | 0 => ⟨0, by decide, fun i hi => absurd hi (by omega)⟩
  | n + 1 => by
    obtain ⟨s, hs, h⟩ := bits_of p n
    rcases Bool.eq_false_or_eq_true (p n) with hp | hp
    · refine ⟨2 ^ n + s, by rw [Nat.pow_succ]; omega, fun i hi => ?_⟩
      rcases Nat.lt_or_ge i n with h1 | h1
      · rw [Nat.testBit_two_pow_add_gt h1, h i h1]
      · obtain rfl : i = n := by omega
        rw [Nat.testBit_two_pow_add_eq, Nat.testBit_lt_two_pow hs, hp]
        rfl
    · refine ⟨s, by rw [Nat.pow_succ]; omega, fun i hi => ?_⟩
      rcases Nat.lt_or_ge i n with h1 | h1
      · exact h i h1
      · obtain rfl : i = n := by omega
        rw [Nat.testBit_lt_two_pow hs, hp]
section
variable (f : Nat → SD) (n : Nat) (r : Int)
def safeX (X : List Int) : Bool := decide ((opX f n r X).length = 0)
/-- the Ids of a set of bits, up to k -/
def chsS (s k : Nat) : List Int := pick (fun i => s.testBit i) (fun i => (f i).id) k
/-- the fewest of the sets below s -/
def fewU : Nat → Nat
  | 0 => n
  | s + 1 => if (decide ((chsS f s n).length < fewU s) && safeX f n r (chsS f s n)) = true then (chsS f s n).length else fewU s
/-- with at most m more, from i on, it can be made safe -/
def someN : Nat → List Int → Nat → Bool
  | 0, X, _ => safeX f n r X
  | m + 1, X, i => safeX f n r X || hasP (fun k => decide (i ≤ k) && someN m (X ++ [(f k).id]) (k + 1)) n
end
section
variable {f : Nat → SD} {n : Nat} {r : Int}
theorem fewU_le : ∀ s, fewU f n r s ≤ n
  | 0 => Nat.le_refl _
  | s + 1 => by
    unfold fewU
    split
    · exact pick_len n
    · exact fewU_le s
theorem fewU_low : ∀ {s t : Nat}, t < s → safeX f n r (chsS f t n) = true → fewU f n r s ≤ (chsS f t n).length
  | 0, t, h, _ => absurd h (by omega)
  | s + 1, t, h, hs => by
    unfold fewU
    rcases Nat.lt_or_ge t s with h1 | h1
    · have := fewU_low (s := s) h1 hs
      split
      · rename_i h2
        simp only [Bool.and_eq_true, decide_eq_true_eq] at h2
        omega
      · exact this
    · obtain rfl : t = s := by omega
      split
      · exact Nat.le_refl _
      · rename_i h2
        simp only [Bool.and_eq_true, decide_eq_true_eq, hs, and_true] at h2
        omega
theorem fewU_hit : ∀ s, fewU f n r s = n ∨ ∃ t, safeX f n r (chsS f t n) = true ∧ (chsS f t n).length = fewU f n r s
  | 0 => .inl rfl
  | s + 1 => by
    unfold fewU
    split
    · rename_i h2
      simp only [Bool.and_eq_true] at h2
      exact .inr ⟨s, h2.2, rfl⟩
    · exact fewU_hit s
theorem pick_all {α : Type} {h : Nat → α} : ∀ n, (pick (fun _ => true) h n).length = n
  | 0 => rfl
  | n + 1 => by rw [pick_hit rfl, List.length_append, pick_all n]; rfl
theorem safe_all (hg : goodNAll f n = true) (hr : 0 ≤ r * r) : safeX f n r (pick (fun _ => true) (fun i => (f i).id) n) = true := by
  unfold safeX
  rw [decide_eq_true_eq]
  unfold opX openS
  rw [pick_none]
  intro j hj
  unfold openP
  rw [open_any, Bool.not_eq_false', List.any_eq_true]
  refine ⟨(f j).id, ?_, by rw [atId_own hg hj]; exact stand_own hr _⟩
  clear hg hr
  induction n with
  | zero => omega
  | succ n ih =>
    rw [pick_hit rfl, List.mem_append]
    rcases Nat.lt_or_ge j n with h1 | h1
    · exact .inl (ih h1)
    · obtain rfl : j = n := by omega
      exact .inr (by simp)
theorem someN_iff : ∀ (m : Nat) (X : List Int) (i : Nat), someN f n r m X i = true ↔ ∃ p : Nat → Bool, (∀ k, p k = true → i ≤ k) ∧ (pick p (fun i => (f i).id) n).length ≤ m ∧ safeX f n r (X ++ pick p (fun i => (f i).id) n) = true := by
  have hno : pick (fun _ => false) (fun i => (f i).id) n = [] := List.length_eq_zero_iff.1 (pick_none.2 (fun _ _ => rfl))
  intro m
  induction m with
  | zero =>
    intro X i
    constructor
    · intro h
      exact ⟨fun _ => false, by simp, by rw [hno]; simp, by rw [hno, List.append_nil]; exact h⟩
    · rintro ⟨p, _, h1, h2⟩
      rw [List.length_eq_zero_iff.1 (Nat.le_zero.1 h1), List.append_nil] at h2
      exact h2
  | succ m ih =>
    intro X i
    unfold someN
    rw [Bool.or_eq_true, hasP_true]
    constructor
    · rintro (h | ⟨k, hk, h⟩)
      · exact ⟨fun _ => false, by simp, by rw [hno]; simp, by rw [hno, List.append_nil]; exact h⟩
      · simp only [Bool.and_eq_true, decide_eq_true_eq] at h
        obtain ⟨p, h1, h2, h3⟩ := (ih _ _).1 h.2
        refine ⟨fun j => (j == k) || p j, fun j hj => ?_, ?_, ?_⟩
        · simp only [Bool.or_eq_true, beq_iff_eq] at hj
          rcases hj with hj | hj
          · omega
          · have := h1 j hj; omega
        · rw [pick_cons hk h1]; simp; exact h2
        · rw [pick_cons hk h1]; simpa using h3
    · rintro ⟨p, h1, h2, h3⟩
      rcases Nat.eq_zero_or_pos (pick p (fun i => (f i).id) n).length with h0 | h0
      · rw [List.length_eq_zero_iff.1 h0, List.append_nil] at h3
        exact .inl h3
      · obtain ⟨k, hk, hp, _, e⟩ := pick_first n h0
        rw [e] at h2 h3
        refine .inr ⟨k, hk, ?_⟩
        simp only [Bool.and_eq_true, decide_eq_true_eq]
        refine ⟨h1 k hp, (ih _ _).2 ⟨fun j => p j && decide (k < j), fun j hj => ?_, ?_, ?_⟩⟩
        · simp only [Bool.and_eq_true, decide_eq_true_eq] at hj; omega
        · simpa using h2
        · simpa using h3
/-- the fewest of all sets are what the selections with ever more elements find -/
theorem few_iff (hg : goodNAll f n = true) (hr : 0 ≤ r * r) (m : Nat) : someN f n r m [] 0 = decide (fewU f n r (2 ^ n) ≤ m) := by
  rw [Bool.eq_iff_iff, someN_iff, decide_eq_true_eq]
  constructor
  · rintro ⟨p, _, h1, h2⟩
    obtain ⟨s, hs, h3⟩ := bits_of p n
    have e : chsS f s n = pick p (fun i => (f i).id) n := pick_congr n h3 (fun _ _ => rfl)
    rw [List.nil_append, ← e] at h2
    rw [← e] at h1
    have := fewU_low hs h2
    omega
  · intro h
    rcases fewU_hit (f := f) (n := n) (r := r) (2 ^ n) with h1 | ⟨t, h1, h2⟩
    · exact ⟨fun _ => true, fun _ _ => Nat.zero_le _, by rw [pick_all]; omega, safe_all hg hr⟩
    · have h3 : (chsS f t n).length ≤ m := by omega
      exact ⟨fun i => t.testBit i, fun _ _ => Nat.zero_le _, h3, h1⟩
theorem chsS_fnd {s k : Nat} (hk : k ≤ n) : fndB f n (fun i => (chsS f s k).getD i 0) (chsS f s k).length = true := by
  refine allUpto_iff.2 (fun i hi => ?_)
  obtain ⟨q, h1, _, h2⟩ := pick_mem (p := fun i => s.testBit i) (h := fun i => (f i).id) (n := k) 0 hi
  have h2 : (chsS f s k).getD i 0 = (f q).id := h2
  show decide (0 ≤ idxId f n ((chsS f s k).getD i 0)) = true
  rw [h2]
  simp only [decide_eq_true_eq]
  rcases idxId_cases f n (f q).id with ⟨_, h⟩ | ⟨j, _, h, _⟩
  · exact absurd rfl (h q (by omega))
  · omega
end
end Go.Proofs.Ytakkgagdbmlafaa
