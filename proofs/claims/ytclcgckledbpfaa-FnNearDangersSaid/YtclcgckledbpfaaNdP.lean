/- Plain Lean for the law on near dangers: within a greater distance there are no fewer; a danger is told if it is near; old ones stay old. No program in sight. -/
import Derived.Test.YtclcgckledbpfaaDangerO
import Derived.Test.YtclcgckledbpfaaDangerE
namespace Go.Proofs.Ytclcgckledbpfaa
open Go.RowKit
theorem pick_memD {α : Type} {p : Nat → Bool} {f : Nat → α} {a : α} : ∀ {n : Nat}, a ∈ pick p f n ↔ ∃ i, i < n ∧ p i = true ∧ a = f i := by
  intro n
  induction n with
  | zero => simp [pick]
  | succ n ih =>
    rcases Bool.eq_false_or_eq_true (p n) with hp | hp
    · rw [pick_hit hp, List.mem_append, List.mem_singleton, ih]
      constructor
      · rintro (⟨i, h1, h2, h3⟩ | h)
        · exact ⟨i, by omega, h2, h3⟩
        · exact ⟨n, by omega, hp, h⟩
      · rintro ⟨i, h1, h2, h3⟩
        rcases Nat.lt_or_ge i n with h4 | h4
        · exact .inl ⟨i, h4, h2, h3⟩
        · obtain rfl : i = n := by omega
          exact .inr h3
    · rw [pick_miss hp, ih]
      constructor
      · rintro ⟨i, h1, h2, h3⟩
        exact ⟨i, by omega, h2, h3⟩
      · rintro ⟨i, h1, h2, h3⟩
        rcases Nat.lt_or_ge i n with h4 | h4
        · exact ⟨i, h4, h2, h3⟩
        · obtain rfl : i = n := by omega
          rw [hp] at h2; cases h2
theorem pick_more {α : Type} {p q : Nat → Bool} {f : Nat → α} : ∀ {n : Nat}, (∀ i, i < n → p i = true → q i = true) → (pick p f n).length ≤ (pick q f n).length
  | 0, _ => Nat.le_refl _
  | n + 1, h => by
    have ih := pick_more (f := f) (fun i hi => h i (Nat.lt_succ_of_lt hi))
    rcases Bool.eq_false_or_eq_true (p n) with hp | hp
    · rw [pick_hit hp, pick_hit (h n (Nat.lt_succ_self n) hp), List.length_append, List.length_append]
      simp only [List.length_singleton]
      omega
    · rw [pick_miss hp]
      rcases Bool.eq_false_or_eq_true (q n) with hq | hq
      · rw [pick_hit hq, List.length_append]
        omega
      · rw [pick_miss hq]
        exact ih
theorem insL_mem {α : Type} {lt : α → α → Bool} {d : α} {S : List α} {x a : α} : a ∈ insL lt d S x ↔ a = x ∨ a ∈ S := by
  have h : ∀ p, a ∈ S ↔ a ∈ S.take p ∨ a ∈ S.drop p := fun p => by rw [← List.mem_append, List.take_append_drop]
  unfold insL
  rw [List.mem_append, List.mem_cons, h (posF lt x (fun i => S.getD i d) S.length)]
  constructor
  · rintro (h | h | h)
    · exact .inr (.inl h)
    · exact .inl h
    · exact .inr (.inr h)
  · rintro (h | h | h)
    · exact .inr (.inl h)
    · exact .inl h
    · exact .inr (.inr h)
theorem nearS_mem {f : Nat → DG} {x y far : Int} {a : DG} : ∀ {n : Nat}, a ∈ nearS f x y far n ↔ a ∈ nearL f x y far n
  | 0 => Iff.rfl
  | n + 1 => by
    have ih := nearS_mem (f := f) (x := x) (y := y) (far := far) (a := a) (n := n)
    rcases Bool.eq_false_or_eq_true (nearD f x y far n) with h | h
    · rw [nearS, nearL_hit h, srtL_snoc, insL_mem, List.mem_append, List.mem_singleton]
      rw [nearS] at ih
      rw [ih]
      exact or_comm
    · rw [nearS, nearL_miss h]
      exact ih
theorem nearS_length (f : Nat → DG) (x y far : Int) (n : Nat) : (nearS f x y far n).length = (nearL f x y far n).length := by rw [nearS, srtL_len]
/-- Ids ascend, so an Id tells the danger -/
theorem idx_of_id {f : Nat → DG} {n i j : Nat} (hg : goodD f n = true) (hi : i < n) (hj : j < n) (h : (f i).id = (f j).id) : i = j := by
  rcases Nat.lt_trichotomy i j with h1 | h1 | h1
  · have := goodD_asc hg i j h1 hj; omega
  · exact h1
  · have := goodD_asc hg j i h1 hi; omega
theorem with_facts {f : Nat → DG} {x y far : Int} {n : Nat} (h : withOk f x y far n = true) : spotB x y = true ∧ (∀ i, i < n → okD (f i) = true) ∧ (0 ≤ far * far ∧ far * far ≤ 4000000) ∧ ∀ i, i < n → ((f i).id ∈ withL f x y far n ↔ sqD (f i).x (f i).y x y ≤ far * far) := by
  have h' := h
  simp only [withOk, Bool.and_eq_true] at h'
  obtain ⟨hg, hp, hf⟩ := h'
  have hgd := (goodDAll_iff.1 hg).1
  refine ⟨hp, goodD_lt hgd, far_bd hf, fun i hi => ?_⟩
  rw [withL, if_pos h, List.mem_map]
  constructor
  · rintro ⟨a, ha, he⟩
    obtain ⟨j, hj, hn, rfl⟩ := pick_memD.1 (nearS_mem.1 ha)
    obtain rfl := idx_of_id hgd hj hi he
    simpa [nearD] using hn
  · intro hs
    exact ⟨f i, nearS_mem.2 (pick_memD.2 ⟨i, hi, by simpa [nearD] using hs, rfl⟩), rfl⟩
theorem inB_wrap {far : Int} (h : inB far 0 100000 = true) : wrap64 (far + 1) = far + 1 := by
  obtain ⟨h1, h2⟩ := inB_iff.1 h
  exact i64_id (by omega) (by omega)
theorem with_more {f : Nat → DG} {x y far far' : Int} {n : Nat} (h : withOk f x y far n = true) (h' : withOk f x y far' n = true) (hw : far' = wrap64 (far + 1)) : (withL f x y far n).length ≤ (withL f x y far' n).length := by
  have hb := h
  simp only [withOk, Bool.and_eq_true] at hb
  obtain ⟨f1, f2⟩ := inB_iff.1 hb.2.2
  have hw' : far' = far + 1 := by rw [hw]; exact inB_wrap (inB_iff.2 ⟨f1, by omega⟩)
  have hsq : far * far ≤ far' * far' := Int.mul_le_mul (by omega) (by omega) f1 (by omega)
  rw [withL, withL, if_pos h, if_pos h', List.length_map, List.length_map, nearS_length, nearS_length]
  refine pick_more (fun i _ hp => ?_)
  simp only [nearD, decide_eq_true_eq] at hp ⊢
  exact Int.le_trans hp hsq
theorem old_later {f : Nat → DG} {t t' a : Int} {n : Nat} (h : oldOk f t a n = true) (h' : oldOk f t' a n = true) (hw : t' = wrap64 (t + 1)) : ∀ z, z ∈ oldL f t a n → z ∈ oldL f t' a n := by
  have hb := h
  simp only [oldOk, Bool.and_eq_true] at hb
  obtain ⟨t1, t2⟩ := inB_iff.1 hb.1.2.1
  have hw' : t' = t + 1 := by rw [hw]; exact inB_wrap (inB_iff.2 ⟨t1, by omega⟩)
  intro z hz
  rw [oldL, if_pos h] at hz
  rw [oldL, if_pos h']
  obtain ⟨i, hi, hp, e⟩ := pick_memD.1 hz
  refine pick_memD.2 ⟨i, hi, ?_, e⟩
  simp only [oldP, decide_eq_true_eq] at hp ⊢
  omega
end Go.Proofs.Ytclcgckledbpfaa
