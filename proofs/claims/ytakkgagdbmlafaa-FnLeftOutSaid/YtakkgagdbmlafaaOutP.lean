/- Plain Lean: a selection without one is one, safe when that one can be left out; the largest radius; as many depths as chosen ones. No program in sight. -/
import Derived.Test.YtakkgagdbmlafaaSelQ
import Derived.Test.YtakkgagdbmlafaaSelF
import Derived.Test.YtakkgagdbmlafaaSelH
namespace Go.Proofs.Ytakkgagdbmlafaa
open Go.RowKit
theorem ascN_parts {L : Nat → Int} {lo hi : Int} : ∀ {m : Nat}, ascN L lo hi m = true → ∀ k, k < m → inB (L k) lo hi = true ∧ (k = 0 ∨ L (k - 1) < L k)
  | 0, _, k, hk => absurd hk (Nat.not_lt_zero _)
  | m + 1, h, k, hk => by
    unfold ascN at h
    simp only [Bool.and_eq_true, Bool.or_eq_true, decide_eq_true_eq] at h
    rcases Nat.lt_or_ge k m with h1 | h1
    · exact ascN_parts h.1.1 k h1
    · obtain rfl : k = m := by omega
      exact ⟨h.1.2, h.2⟩
theorem ascN_lt {L : Nat → Int} {lo hi : Int} {m : Nat} (h : ascN L lo hi m = true) (i : Nat) : ∀ j, i < j → j < m → L i < L j
  | 0, h1, _ => absurd h1 (Nat.not_lt_zero _)
  | j + 1, h1, h2 => by
    have h3 := (ascN_parts h (j + 1) h2).2
    rw [Nat.add_sub_cancel] at h3
    rcases Nat.lt_or_ge i j with h4 | h4
    · have := ascN_lt h i j h4 (by omega)
      omega
    · obtain rfl : i = j := by omega
      omega
theorem ascN_wo {L : Nat → Int} {lo hi : Int} {m : Nat} (h : ascN L lo hi m = true) (i : Nat) : ascN (woL L i) lo hi (m - 1) = true := by
  refine ascN_of (fun k hk => ⟨?_, ?_⟩)
  · unfold woL
    split
    · exact (ascN_parts h k (by omega)).1
    · exact (ascN_parts h (k + 1) (by omega)).1
  · rcases Nat.eq_zero_or_pos k with h0 | h0
    · exact .inl h0
    · right
      unfold woL
      split
      · split
        · exact ascN_lt h _ _ (by omega) (by omega)
        · exact ascN_lt h _ _ (by omega) (by omega)
      · split
        · omega
        · exact ascN_lt h _ _ (by omega) (by omega)
theorem left_facts {f : Nat → SD} {n : Nat} {L : Nat → Int} {m : Nat} {r : Int} (h : safeOut f n L m r = true) : ∀ i, i < m → askB f n (woL L i) (m - 1) r = true ∧ safeOut f n (woL L i) (m - 1) r = decide (L i ∈ cloL f n L m r) := by
  intro i hi
  have h0 : askB f n L m r = true := by
    unfold safeOut at h
    rw [Bool.and_eq_true] at h
    exact h.1
  obtain ⟨hg, hf, hr, hs⟩ := ask_parts h0
  obtain ⟨-, ha, -⟩ := selB_parts hs
  have h1 : askB f n (woL L i) (m - 1) r = true := by
    unfold askB selB
    rw [hg, ascN_wo ha, fndB_wo hf hi, hr]
    rfl
  refine ⟨h1, ?_⟩
  rw [safeOut, h1, cloL, if_pos h, Bool.true_and]
  refine decide_eq_decide.2 ?_
  unfold cloT
  rw [pick_mem_iff]
  constructor
  · intro h2
    exact ⟨i, hi, decide_eq_true h2, rfl⟩
  · rintro ⟨j, hj, h2, e⟩
    have : j = i := by
      rcases Nat.lt_trichotomy i j with h3 | h3 | h3
      · have := ascN_lt ha i j h3 hj; omega
      · exact h3.symm
      · have := ascN_lt ha j i h3 hi; omega
    subst this
    exact of_decide_eq_true h2
theorem rad_facts {f : Nat → SD} {n : Nat} {L : Nat → Int} {m : Nat} (h : radB f n L m = true) : 1 ≤ radO f n L m ∧ radO f n L m ≤ 999 ∧ askB f n L m (radO f n L m) = true ∧ thinOut f n L m (radO f n L m) = true ∧
    askB f n L m (radO f n L m + 1) = true ∧ thinOut f n L m (radO f n L m + 1) = false := by
  obtain ⟨hs, h1000, h1⟩ : selB f n L m = true ∧ thinB f n L m 1000 = false ∧ thinB f n L m 1 = true := by simpa [radB] using h
  rw [radO, if_pos h, radV]
  rcases idxP_cases (fun k => !thinB f n L m ((k : Int) + 2)) topRad with ⟨_, h2⟩ | ⟨k, hk, h2, h3, h4⟩
  · have := h2 998 (by decide)
    simp only [Bool.not_eq_false'] at this
    rw [show (((998 : Nat) : Int) + 2) = 1000 by rfl, h1000] at this
    cases this
  · have hk : k < 999 := hk
    rw [h2]
    have hr1 : inB ((k : Int) + 1) 1 1000 = true := by rw [inB_iff]; omega
    have hr2 : inB ((k : Int) + 1 + 1) 1 1000 = true := by rw [inB_iff]; omega
    have ht1 : thinB f n L m ((k : Int) + 1) = true := by
      rcases Nat.eq_zero_or_pos k with h0 | h0
      · subst h0
        exact h1
      · have := h4 (k - 1) (by omega)
        simp only [Bool.not_eq_false'] at this
        rwa [show (((k - 1 : Nat) : Int) + 2) = (k : Int) + 1 by omega] at this
    have ht2 : thinB f n L m ((k : Int) + 1 + 1) = false := by
      simp only [Bool.not_eq_true'] at h3
      rwa [show (k : Int) + 1 + 1 = (k : Int) + 2 by omega]
    refine ⟨by omega, by omega, ?_, ?_, ?_, ?_⟩
    · rw [askB, hs, hr1]; rfl
    · rw [thinOut, askB, hs, hr1, ht1]; rfl
    · rw [askB, hs, hr2]; rfl
    · rw [thinOut, askB, hs, hr2, ht2]; rfl
theorem shown_facts {f : Nat → SD} {n : Nat} {L : Nat → Int} {m : Nat} (h : selB f n L m = true) : (shownO f n L m).length = m := by
  rw [shownO, if_pos h, shownL]
  exact pick_all m
end Go.Proofs.Ytakkgagdbmlafaa
