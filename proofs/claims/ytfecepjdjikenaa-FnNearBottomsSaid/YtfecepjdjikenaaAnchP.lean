/- Plain Lean: a sort by insertion, the greatest key first, is a count of the keys down. No program in sight. -/
import Derived.Test.YtfecepjdjikenaaIns2
import Derived.Test.YtfecepjdjikenaaPlain
namespace Go.Proofs.Ytfecepjdjikenaa
section
variable {α : Type}
/-- of the first n, those of key 100, then those of key 99, .. k keys in all -/
def levN (h : α → Int) (f : Nat → α) (n : Nat) : Nat → List α
  | 0 => []
  | k + 1 => levN h f n k ++ pick (fun i => decide (h (f i) = 100 - k)) f n
def ltH (h : α → Int) : α → α → Bool := fun x y => decide (h y < h x)
theorem levN_zero (h : α → Int) (f : Nat → α) : ∀ t, levN h f 0 t = []
  | 0 => rfl
  | t + 1 => by rw [levN, levN_zero h f t]; rfl
theorem levN_miss {h : α → Int} {f : Nat → α} {n : Nat} : ∀ t : Nat, h (f n) ≤ 100 - t → levN h f (n + 1) t = levN h f n t
  | 0, _ => rfl
  | t + 1, hh => by
    rw [levN, levN, levN_miss t (by omega), pick_miss (decide_eq_false (by omega))]
theorem pick_in {p : Nat → Bool} {f : Nat → α} : ∀ {n : Nat} {a : α}, a ∈ pick p f n → ∃ i, i < n ∧ p i = true ∧ a = f i
  | 0, a, h => by simp [pick] at h
  | n + 1, a, h => by
    rcases Bool.eq_false_or_eq_true (p n) with hp | hp
    · rw [pick_hit hp, List.mem_append, List.mem_singleton] at h
      rcases h with h | h
      · obtain ⟨i, h1, h2, h3⟩ := pick_in h
        exact ⟨i, by omega, h2, h3⟩
      · exact ⟨n, by omega, hp, h⟩
    · rw [pick_miss hp] at h
      obtain ⟨i, h1, h2, h3⟩ := pick_in h
      exact ⟨i, by omega, h2, h3⟩
theorem levN_in {h : α → Int} {f : Nat → α} {n : Nat} {a : α} : ∀ {t : Nat}, a ∈ levN h f n t → 100 - (t : Int) < h a
  | 0, ha => by simp [levN] at ha
  | t + 1, ha => by
    rw [levN, List.mem_append] at ha
    rcases ha with ha | ha
    · have := levN_in ha
      omega
    · obtain ⟨i, _, h2, h3⟩ := pick_in ha
      subst h3
      have := of_decide_eq_true h2
      omega
theorem levN_hit {h : α → Int} {f : Nat → α} {n k : Nat} (hk : h (f n) = 100 - k) : ∀ t : Nat, k < t →
    ∃ B, levN h f n t = levN h f n (k + 1) ++ B ∧ levN h f (n + 1) t = levN h f n (k + 1) ++ f n :: B ∧ ∀ b, b ∈ B → h b < h (f n)
  | 0, h0 => absurd h0 (by omega)
  | t + 1, h0 => by
    rcases Nat.lt_or_ge k t with h1 | h1
    · obtain ⟨B, e1, e2, e3⟩ := levN_hit hk t h1
      refine ⟨B ++ pick (fun i => decide (h (f i) = 100 - t)) f n, ?_, ?_, ?_⟩
      · rw [levN, e1, List.append_assoc]
      · rw [levN, e2, pick_miss (decide_eq_false (by omega))]
        simp
      · intro b hb
        rw [List.mem_append] at hb
        rcases hb with hb | hb
        · exact e3 b hb
        · obtain ⟨i, _, h2, h3⟩ := pick_in hb
          subst h3
          have := of_decide_eq_true h2
          omega
    · obtain rfl : k = t := by omega
      refine ⟨[], by simp, ?_, fun b hb => by simp at hb⟩
      rw [levN, levN_miss k (by omega), pick_hit (decide_eq_true hk), levN, List.append_assoc]
theorem srt_levN (h : α → Int) (d : α) (f : Nat → α) (t : Nat) : ∀ n, (∀ i, i < n → 0 ≤ h (f i) ∧ h (f i) ≤ 100) → srtL (ltH h) d (pick (fun i => decide (100 - (t : Int) < h (f i))) f n) = levN h f n t
  | 0, _ => by rw [levN_zero]; rfl
  | n + 1, hb => by
    have ih := srt_levN h d f t n (fun i hi => hb i (by omega))
    obtain ⟨b1, b2⟩ := hb n (by omega)
    by_cases hp : 100 - (t : Int) < h (f n)
    · rw [pick_hit (decide_eq_true hp), srtL_snoc, ih]
      obtain ⟨k, hk⟩ : ∃ k : Nat, h (f n) = 100 - k := ⟨(100 - h (f n)).toNat, by omega⟩
      obtain ⟨B, e1, e2, e3⟩ := levN_hit hk t (by omega)
      rw [e1, e2]
      refine insL_split (fun b hb => decide_eq_true (e3 b hb)) (fun a ha => decide_eq_false ?_)
      have := levN_in ha
      omega
    · rw [pick_miss (decide_eq_false hp), ih, levN_miss t (by omega)]
end
end Go.Proofs.Ytfecepjdjikenaa
