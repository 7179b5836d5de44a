/- Plain Lean: the chosen shoals are a selection, safe, thin, and not fewer than the fewest. No program in sight. -/
import Derived.Test.YtakkgagdbmlafaaFewP
namespace Go.Proofs.Ytakkgagdbmlafaa
theorem asc_ext : ∀ {X Y : List Int}, X.Pairwise (· < ·) → Y.Pairwise (· < ·) → (∀ x, x ∈ X ↔ x ∈ Y) → X = Y
  | [], [], _, _, _ => rfl
  | [], b :: Y, _, _, h => absurd ((h b).2 (by simp)) (by simp)
  | a :: X, [], _, _, h => absurd ((h a).1 (by simp)) (by simp)
  | a :: X, b :: Y, hX, hY, h => by
    rw [List.pairwise_cons] at hX hY
    have hab : a = b := by
      have h1 := (h a).1 (by simp)
      have h2 := (h b).2 (by simp)
      rw [List.mem_cons] at h1 h2
      rcases h1 with h1 | h1
      · exact h1
      · rcases h2 with h2 | h2
        · exact h2.symm
        · have := hX.1 b h2
          have := hY.1 a h1
          omega
    subst hab
    congr 1
    refine asc_ext hX.2 hY.2 (fun x => ?_)
    have h1 := h x
    rw [List.mem_cons, List.mem_cons] at h1
    constructor
    · intro hx
      rcases h1.1 (.inr hx) with e | e
      · have := hX.1 x hx; omega
      · exact e
    · intro hx
      rcases h1.2 (.inr hx) with e | e
      · have := hY.1 x hx; omega
      · exact e
theorem pick_mem_iff {α : Type} {p : Nat → Bool} {f : Nat → α} {a : α} : ∀ {n : Nat}, a ∈ pick p f n ↔ ∃ i, i < n ∧ p i = true ∧ a = f i
  | 0 => by simp [pick]
  | n + 1 => by
    rcases Bool.eq_false_or_eq_true (p n) with hp | hp
    · rw [pick_hit hp, List.mem_append, pick_mem_iff, List.mem_singleton]
      constructor
      · rintro (⟨i, h1, h2, h3⟩ | h)
        · exact ⟨i, by omega, h2, h3⟩
        · exact ⟨n, by omega, hp, h⟩
      · rintro ⟨i, h1, h2, h3⟩
        rcases Nat.lt_or_ge i n with h | h
        · exact .inl ⟨i, h, h2, h3⟩
        · obtain rfl : i = n := by omega
          exact .inr h3
    · rw [pick_miss hp, pick_mem_iff]
      constructor
      · rintro ⟨i, h1, h2, h3⟩
        exact ⟨i, by omega, h2, h3⟩
      · rintro ⟨i, h1, h2, h3⟩
        rcases Nat.lt_or_ge i n with h | h
        · exact ⟨i, h, h2, h3⟩
        · obtain rfl : i = n := by omega
          rw [hp] at h2
          cases h2
theorem pick_asc {p : Nat → Bool} {h : Nat → Int} : ∀ {n : Nat}, (∀ i j, i < j → j < n → h i < h j) → (pick p h n).Pairwise (· < ·)
  | 0, _ => List.Pairwise.nil
  | n + 1, ha => by
    have ih := pick_asc (p := p) (h := h) (n := n) (fun i j h1 h2 => ha i j h1 (by omega))
    rcases Bool.eq_false_or_eq_true (p n) with hp | hp
    · rw [pick_hit hp, List.pairwise_append]
      refine ⟨ih, by simp, fun a ha' b hb => ?_⟩
      obtain ⟨i, hi, _, rfl⟩ := pick_mem_iff.1 ha'
      rw [List.mem_singleton] at hb
      subst hb
      exact ha i n hi (by omega)
    · rw [pick_miss hp]
      exact ih
theorem ascN_of {L : Nat → Int} {lo hi : Int} : ∀ {m : Nat}, (∀ k, k < m → inB (L k) lo hi = true ∧ (k = 0 ∨ L (k - 1) < L k)) → ascN L lo hi m = true
  | 0, _ => rfl
  | m + 1, h => by
    unfold ascN
    rw [ascN_of (fun k hk => h k (by omega)), (h m (by omega)).1]
    have := (h m (by omega)).2
    simpa using this
theorem nearB_symm {r : Int} {a b : SD} : nearB r a b = nearB r b a := by
  unfold nearB
  have : sqD a.x a.y b.x b.y = sqD b.x b.y a.x a.y := by
    unfold sqD
    have h1 : (a.x - b.x) * (a.x - b.x) = (b.x - a.x) * (b.x - a.x) := by
      rw [show b.x - a.x = -(a.x - b.x) by omega, Int.neg_mul_neg]
    have h2 : (a.y - b.y) * (a.y - b.y) = (b.y - a.y) * (b.y - a.y) := by
      rw [show b.y - a.y = -(a.y - b.y) by omega, Int.neg_mul_neg]
    omega
  rw [this]
theorem nearB_own {r : Int} (hr : 0 ≤ r * r) (a : SD) : nearB r a a = true := by
  simp [nearB, sqD]
  omega
section
variable (f : Nat → SD) (n : Nat) (r : Int)
def RunInv (X : List Int) : Prop := (∀ x, x ∈ X → ∃ q, q < n ∧ x = (f q).id) ∧ X.Pairwise (fun a b => nearB r (atId f n a) (atId f n b) = false) ∧
  ∀ a, a ∈ X → ∀ q, q < n → openP f n (fun i => X.getD i 0) X.length r q = true → lowV (atId f n a) ≤ lowV (f q)
end
section
variable {f : Nat → SD} {n : Nat} {r : Int}
theorem minI_le {g : Nat → Int} : ∀ {m : Nat}, ∀ i, i < m → g (minI g m) ≤ g i
  | 0, i, h => absurd h (Nat.not_lt_zero _)
  | m + 1, i, h => by
    unfold minI
    rcases Nat.eq_zero_or_pos m with hm | hm
    · subst hm
      obtain rfl : i = 0 := by omega
      simp
    · rw [if_neg (by omega)]
      rcases Nat.lt_or_ge i m with h1 | h1
      · have := minI_le (g := g) i h1
        split <;> omega
      · obtain rfl : i = m := by omega
        split <;> omega
theorem best_low {X : List Int} {q : Nat} (hq : q < n) (ho : openP f n (fun i => X.getD i 0) X.length r q = true) :
    lowV ((opX f n r X).getD (minI (fun i => lowV ((opX f n r X).getD i noSD)) (opX f n r X).length) noSD) ≤ lowV (f q) := by
  have hm : f q ∈ opX f n r X := pick_mem_iff.2 ⟨q, hq, ho, rfl⟩
  obtain ⟨j, hj, e⟩ := List.mem_iff_getElem.1 hm
  have h1 := minI_le (g := fun i => lowV ((opX f n r X).getD i noSD)) j hj
  have h2 : (opX f n r X).getD j noSD = f q := by rw [← e]; simp [List.getD, hj]
  simp only [h2] at h1
  exact h1
theorem inv_next (hg : goodNAll f n = true) {X : List Int} (h : RunInv f n r X) (ho : 0 < (opX f n r X).length) : RunInv f n r (X ++ [bestS (opX f n r X)]) := by
  obtain ⟨h1, h2, h3⟩ := h
  obtain ⟨q, hq, hop, e, e2⟩ := best_in hg ho
  rw [e]
  have hopn := fun (j : Nat) (hj : openP f n (fun i => (X ++ [(f q).id]).getD i 0) (X ++ [(f q).id]).length r j = true) => show openP f n (fun i => X.getD i 0) X.length r j = true from by
    unfold openP at hj ⊢
    rw [open_any] at hj ⊢
    simp only [List.any_append, Bool.not_or, Bool.and_eq_true] at hj
    exact hj.1
  refine ⟨fun x hx => ?_, ?_, fun a ha j hj hpj => ?_⟩
  · rw [List.mem_append, List.mem_singleton] at hx
    rcases hx with hx | hx
    · exact h1 x hx
    · exact ⟨q, hq, hx⟩
  · rw [List.pairwise_append]
    refine ⟨h2, by simp, fun a ha b hb => ?_⟩
    rw [List.mem_singleton] at hb
    subst hb
    rw [atId_own hg hq]
    have hlo := h3 a ha q hq hop
    unfold openP at hop
    rw [open_any, Bool.not_eq_true', List.any_eq_false] at hop
    have h4 := hop a ha
    simpa [standB, hlo] using h4
  · rw [List.mem_append, List.mem_singleton] at ha
    rcases ha with ha | ha
    · exact h3 a ha j hj (hopn j hpj)
    · subst ha
      rw [atId_own hg hq, ← e2]
      exact best_low hj (hopn j hpj)
theorem run_inv (hg : goodNAll f n = true) (hr : 0 ≤ r * r) : ∀ (k : Nat) (X : List Int), RunInv f n r X → (opX f n r X).length ≤ k → RunInv f n r (runX f n r k X) ∧ (opX f n r (runX f n r k X)).length = 0
  | 0, X, h, hk => ⟨h, by simpa [runX] using hk⟩
  | k + 1, X, h, hk => by
    rcases Nat.eq_zero_or_pos (opX f n r X).length with h0 | h0
    · rw [run_end h0]
      exact ⟨h, h0⟩
    · rw [run_step h0]
      have := opX_less hg hr h0
      exact run_inv hg hr k _ (inv_next hg h h0) (by omega)
/-- the chosen shoals: all that the law asks of them -/
theorem sho_law (h : shoOk f n r = true) : askB f n (fun i => (shoL f n r).getD i 0) (shoL f n r).length r = true ∧ (openL f n (fun i => (shoL f n r).getD i 0) (shoL f n r).length r).length = 0 ∧
    thinB f n (fun i => (shoL f n r).getD i 0) (shoL f n r).length r = true ∧ fewU f n r (2 ^ n) ≤ (shoL f n r).length := by
  obtain ⟨hg, hrb⟩ : goodNAll f n = true ∧ inB r 1 1000 = true := by simpa [shoOk] using h
  have hr : 0 ≤ r * r := by have := rad_bd hrb; omega
  have hid := fun q (hq : q < n) => okN_bd (goodN_lt (goodNAll_iff.1 hg).1 q hq)
  obtain ⟨⟨h1, h2, -⟩, h0⟩ := run_inv hg hr n [] ⟨by simp, List.Pairwise.nil, by simp⟩ (opX_len _)
  have hp := ascL_perm (runX f n r n [])
  unfold shoL
  have hle := fold_asc (runX f n r n []) [] List.Pairwise.nil
  generalize runX f n r n [] = X at h1 h2 h0 hp hle ⊢
  have hle : (ascL X).Pairwise (· ≤ ·) := hle
  have h2 := (hp.pairwise_iff (R := fun a b => nearB r (atId f n a) (atId f n b) = false) (fun {x y} hxy => by rw [nearB_symm]; exact hxy)).2 h2
  have h1 := fun x hx => h1 x (hp.mem_iff.1 hx)
  rw [← opX_perm (f := f) (n := n) (r := r) hp] at h0
  generalize ascL X = Y at h1 h2 h0 hle ⊢
  have hlt : Y.Pairwise (· < ·) := by
    refine (hle.and h2).imp (fun {a b} hab => ?_)
    have : a ≠ b := fun e => by
      have := hab.2
      rw [e, nearB_own hr] at this
      cases this
    have := hab.1
    omega
  rw [List.pairwise_iff_getElem] at h2
  have hgd : ∀ i (hi : i < Y.length), Y.getD i 0 = Y[i] := fun i hi => by simp [List.getD, hi]
  have hfnd : fndB f n (fun i => Y.getD i 0) Y.length = true := by
    refine allUpto_iff.2 (fun i hi => ?_)
    obtain ⟨q, hq, e⟩ := h1 Y[i] (List.getElem_mem hi)
    simp only [hgd i hi, e, decide_eq_true_eq]
    rcases idxId_cases f n (f q).id with ⟨_, h⟩ | ⟨k, hk, h1, h2⟩
    · exact absurd rfl (h q hq)
    · omega
  have hasc : ascN (fun i => Y.getD i 0) 1 999 Y.length = true := by
    refine ascN_of (fun k hk => ⟨?_, ?_⟩)
    · obtain ⟨q, hq, e⟩ := h1 Y[k] (List.getElem_mem hk)
      have := hid q hq
      simp only [hgd k hk, e]
      rw [inB_iff]
      omega
    · rcases Nat.eq_zero_or_pos k with h0 | h0
      · exact .inl h0
      · right
        rw [List.pairwise_iff_getElem] at hlt
        have := hlt (k - 1) k (by omega) hk (by omega)
        simpa only [hgd k hk, hgd (k - 1) (by omega)] using this
  refine ⟨?_, ?_, ?_, ?_⟩
  · unfold askB selB
    rw [hg, hasc, hfnd, hrb]
    rfl
  · rw [← openS_len]
    exact h0
  · refine allUpto_iff.2 (fun i hi => ?_)
    unfold thinP
    rw [Bool.not_eq_true', Bool.eq_false_iff]
    intro hh
    obtain ⟨k, hk, hn⟩ := hasP_true.1 hh
    have := h2 k i (by omega) hi hk
    simp only [hgd i hi, hgd k (by omega)] at hn
    rw [nearB_symm, this] at hn
    cases hn
  · have hs : someN f n r Y.length [] 0 = true := by
      rw [someN_iff]
      have hY : pick (fun k => decide ((f k).id ∈ Y)) (fun i => (f i).id) n = Y := by
        refine asc_ext (pick_asc (fun i j h1 h2 => goodN_asc (goodNAll_iff.1 hg).1 i j h1 h2)) hlt (fun x => ?_)
        rw [pick_mem_iff]
        constructor
        · rintro ⟨i, _, h3, rfl⟩
          simpa using h3
        · intro hx
          obtain ⟨q, hq, e⟩ := h1 x hx
          exact ⟨q, hq, by simpa [← e] using hx, e⟩
      refine ⟨fun k => decide ((f k).id ∈ Y), fun _ _ => Nat.zero_le _, by rw [hY]; exact Nat.le_refl _, ?_⟩
      rw [hY, List.nil_append, safeX, decide_eq_true_eq]
      exact h0
    rw [few_iff hg hr, decide_eq_true_eq] at hs
    exact hs
end
end Go.Proofs.Ytakkgagdbmlafaa
