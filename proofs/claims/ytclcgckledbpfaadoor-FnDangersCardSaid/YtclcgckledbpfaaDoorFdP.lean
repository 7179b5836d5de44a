/- The plain law on dangers: the safe depth is at most the least, who is blocked is blocked for a deeper ship, what a danger seen again changes. -/
import Derived.Test.YtclcgckledbpfaaDoorDangerF
import Derived.Test.YtclcgckledbpfaaDoorDangerG
namespace Go.Proofs.YtclcgckledbpfaaDoor
open Go.RowKit
theorem safeV_le {s : DG} (h : okD s = true) : safeV s ≤ s.least := by
  obtain ⟨_, _, ⟨h1, h2⟩, _⟩ := okD_bd h
  unfold safeV lessV
  split <;> (try split) <;> (try split) <;> omega
theorem pick_memF {α : Type} {p : Nat → Bool} {h : Nat → α} {z : α} : ∀ {n : Nat}, z ∈ pick p h n ↔ ∃ i, i < n ∧ p i = true ∧ h i = z
  | 0 => by simp [pick]
  | n + 1 => by
    rw [pick, List.mem_append, pick_memF]
    constructor
    · rintro (⟨i, hi, hp, e⟩ | hz)
      · exact ⟨i, by omega, hp, e⟩
      · by_cases hp : p n = true
        · rw [if_pos hp] at hz
          exact ⟨n, by omega, hp, (List.mem_singleton.1 hz).symm⟩
        · rw [if_neg hp] at hz
          cases hz
    · rintro ⟨i, hi, hp, e⟩
      by_cases hin : i = n
      · subst hin
        right
        rw [if_pos hp]
        simpa using e.symm
      · exact Or.inl ⟨i, by omega, hp, e⟩
theorem wrapF {d : Int} (h : inB d 10 2000 = true) : wrap64 (d + 1) = d + 1 := by
  have := inB_iff.1 h
  unfold wrap64
  omega
theorem block_more {f : Nat → DG} {d u : Int} {n : Nat} (h : blockOk f d u n = true) (h' : blockOk f (wrap64 (d + 1)) u n = true) : ∀ z, z ∈ blockL f d u n → z ∈ blockL f (wrap64 (d + 1)) u n := by
  have hb := h
  simp only [blockOk, Bool.and_eq_true] at hb
  have hw := wrapF hb.2.1
  rw [hw] at h' ⊢
  intro z hz
  rw [blockL, if_pos h] at hz
  rw [blockL, if_pos h']
  obtain ⟨i, hi, hp, e⟩ := pick_memF.1 hz
  refine pick_memF.2 ⟨i, hi, ?_, e⟩
  simp only [blockP, decide_eq_true_eq] at hp ⊢
  omega
/-- what the law asks of a list in which a danger was seen again -/
theorem see_facts {f : Nat → DG} {n : Nat} {id t l q : Int} (h : seeB f n id t l q = true) : ∀ i, i < n →
    ((updD f (seeK f n id) t l q i).id = (f i).id) ∧ ((f i).id = id → (updD f (seeK f n id) t l q i).seen = t ∧ (updD f (seeK f n id) t l q i).quality ≤ (f i).quality) ∧ ((f i).id ≠ id → updD f (seeK f n id) t l q i = f i) := by
  simp only [seeB, Bool.and_eq_true, decide_eq_true_eq, Bool.not_eq_true', decide_eq_false_iff_not] at h
  obtain ⟨hg, h0, ht, hq, _⟩ := h
  obtain ⟨k, hk, hid⟩ : ∃ k, k < n ∧ (seeK f n id = k ∧ (f k).id = id) := by
    rcases idxP_cases (fun i => decide ((f i).id = id)) n with ⟨e, _⟩ | ⟨k, hk, e, hp, _⟩
    · rw [idDG, e] at h0
      omega
    · exact ⟨k, hk, by rw [seeK, idDG, e]; rfl, by simpa using hp⟩
  rw [hid.1] at ht hq ⊢
  have hasc := goodD_asc (goodDAll_iff.1 hg).1
  intro i hi
  by_cases hik : i = k
  · subst hik
    simp only [updD, if_true]
    exact ⟨by first | trivial | rfl, fun _ => ⟨by first | trivial | rfl, by omega⟩, fun h => absurd hid.2 h⟩
  · have hne : (f i).id ≠ (f k).id := by
      rcases Nat.lt_or_gt_of_ne hik with h | h
      · have := hasc i k h hk
        omega
      · have := hasc k i h hi
        omega
    simp only [updD, hik, if_false]
    exact ⟨by first | trivial | rfl, fun h => absurd (h.trans hid.2.symm) hne, fun _ => by first | trivial | rfl⟩
end Go.Proofs.YtclcgckledbpfaaDoor
