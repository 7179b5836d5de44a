/- Plain Lean for the law on near bottoms: the nearest is nearest; a mean is of shares; an odd one has no like one near. No program in sight. -/
import Derived.Test.YtfecepjdjikenaaBotP
namespace Go.Proofs.Ytfecepjdjikenaa
theorem nearIdx_min (f : Nat → BS) (x y : Int) : ∀ n k, k < n → sqD (f (nearIdx f x y n)).x (f (nearIdx f x y n)).y x y ≤ sqD (f k).x (f k).y x y
  | 0, k, h => absurd h (by omega)
  | n + 1, k, h => by
    rcases Int.lt_or_le (sqD (f n).x (f n).y x y) (sqD (f (nearIdx f x y n)).x (f (nearIdx f x y n)).y x y) with h1 | h1
    · rw [nearIdx_step h1]
      rcases Nat.lt_or_ge k n with h2 | h2
      · have := nearIdx_min f x y n k h2
        omega
      · obtain rfl : k = n := by omega
        exact Int.le_refl _
    · rw [nearIdx_stay h1]
      rcases Nat.lt_or_ge k n with h2 | h2
      · exact nearIdx_min f x y n k h2
      · obtain rfl : k = n := by omega
        exact h1
theorem near_facts {f : Nat → BS} {x y : Int} {n : Nat} (h : nearOk f x y n = true) : spotB x y = true ∧ (∀ i, i < n → okS (f i) = true) ∧ ∀ i k, i < n → k < n → (f i).id = nearId f x y n → sqD (f i).x (f i).y x y ≤ sqD (f k).x (f k).y x y := by
  obtain ⟨⟨hg, _⟩, h0, hp⟩ : (goodUpto f n = true ∧ n ≤ 12) ∧ 0 < n ∧ spotB x y = true := by simpa [nearOk] using h
  refine ⟨hp, good_lt hg, fun i k hi hk e => ?_⟩
  rw [nearId, if_pos h] at e
  have hl := nearIdx_lt f x y n h0
  have : i = nearIdx f x y n := by
    rcases Nat.lt_trichotomy i (nearIdx f x y n) with h1 | h1 | h1
    · have := good_asc hg _ _ h1 hl; omega
    · exact h1
    · have := good_asc hg _ _ h1 hi; omega
  rw [this]
  exact nearIdx_min f x y n k hk
theorem sumIf_add (p : Nat → Bool) (g h : Nat → Int) : ∀ n, sumIf p (fun i => g i + h i) n = sumIf p g n + sumIf p h n
  | 0 => rfl
  | n + 1 => by
    rcases Bool.eq_false_or_eq_true (p n) with hp | hp
    · rw [sumIf_hit hp, sumIf_hit hp, sumIf_hit hp, sumIf_add p g h n]
      omega
    · rw [sumIf_miss hp, sumIf_miss hp, sumIf_miss hp, sumIf_add p g h n]
theorem sumIf_hundred (p : Nat → Bool) (g : Nat → Int) : ∀ n, (∀ i, i < n → g i = 100) → sumIf p g n = 100 * sumIf p (fun _ => 1) n
  | 0, _ => rfl
  | n + 1, h => by
    have ih := sumIf_hundred p g n (fun i hi => h i (by omega))
    rcases Bool.eq_false_or_eq_true (p n) with hp | hp
    · rw [sumIf_hit hp, sumIf_hit hp, ih, h n (by omega)]
      omega
    · rw [sumIf_miss hp, sumIf_miss hp, ih]
theorem mean_facts {f : Nat → BS} {x y far : Int} {n : Nat} (h : meanOk f x y far n = true) : 98 ≤ meanV f x y far n BS.mud + meanV f x y far n BS.sand + meanV f x y far n BS.rock ∧ meanV f x y far n BS.mud + meanV f x y far n BS.sand + meanV f x y far n BS.rock ≤ 100 ∧ (0 ≤ meanV f x y far n BS.mud ∧ 0 ≤ meanV f x y far n BS.sand ∧ 0 ≤ meanV f x y far n BS.rock) := by
  have h' := h
  simp only [meanOk, Bool.and_eq_true, decide_eq_true_eq, Bool.not_eq_true', decide_eq_false_iff_not] at h'
  obtain ⟨⟨hg, _⟩, _, _, hc⟩ := h'
  have hok := good_lt hg
  have e1 : sumIf (nearP f x y far) (fun i => (f i).mud) n + sumIf (nearP f x y far) (fun i => (f i).sand) n + sumIf (nearP f x y far) (fun i => (f i).rock) n = 100 * sumIf (nearP f x y far) (fun _ => 1) n := by
    rw [← sumIf_add, ← sumIf_add]
    exact sumIf_hundred _ _ n (fun i hi => (okS_bd (hok i hi)).2)
  have b0 := (sumIf_bd (p := nearP f x y far) (h := fun _ => 1) (n := n) (M := 1) (by decide) (fun _ _ => by omega) n (Nat.le_refl _)).1
  have b1 := (sumIf_bd (p := nearP f x y far) (h := fun i => (f i).mud) (n := n) (M := 100) (by decide) (fun i hi => (okS_bd (hok i hi)).1.2.2.1) n (Nat.le_refl _)).1
  have b2 := (sumIf_bd (p := nearP f x y far) (h := fun i => (f i).sand) (n := n) (M := 100) (by decide) (fun i hi => (okS_bd (hok i hi)).1.2.2.2.1) n (Nat.le_refl _)).1
  have b3 := (sumIf_bd (p := nearP f x y far) (h := fun i => (f i).rock) (n := n) (M := 100) (by decide) (fun i hi => (okS_bd (hok i hi)).1.2.2.2.2) n (Nat.le_refl _)).1
  rw [meanV, meanV, meanV, if_pos h, if_pos h, if_pos h]
  generalize sumIf (nearP f x y far) (fun i => (f i).mud) n = M at *
  generalize sumIf (nearP f x y far) (fun i => (f i).sand) n = S at *
  generalize sumIf (nearP f x y far) (fun i => (f i).rock) n = R at *
  generalize sumIf (nearP f x y far) (fun _ => 1) n = c at *
  have hcp : 0 < c := by omega
  have m1 := Int.mul_ediv_self_le (x := M) (k := c) (by omega)
  have m2 := Int.mul_ediv_self_le (x := S) (k := c) (by omega)
  have m3 := Int.mul_ediv_self_le (x := R) (k := c) (by omega)
  have l1 := Int.lt_mul_ediv_self_add (x := M) hcp
  have l2 := Int.lt_mul_ediv_self_add (x := S) hcp
  have l3 := Int.lt_mul_ediv_self_add (x := R) hcp
  have n1 := Int.ediv_nonneg b1 (Int.le_of_lt hcp)
  have n2 := Int.ediv_nonneg b2 (Int.le_of_lt hcp)
  have n3 := Int.ediv_nonneg b3 (Int.le_of_lt hcp)
  generalize M / c = q1 at *
  generalize S / c = q2 at *
  generalize R / c = q3 at *
  have t1 : c * (q1 + q2 + q3) ≤ c * 100 := by rw [Int.mul_add, Int.mul_add]; omega
  have t2 : c * 97 < c * (q1 + q2 + q3) := by rw [Int.mul_add, Int.mul_add]; omega
  have u1 := Int.le_of_mul_le_mul_left t1 hcp
  have u2 := Int.lt_of_mul_lt_mul_left t2 (Int.le_of_lt hcp)
  omega
theorem cntP_zero {p : Nat → Bool} : ∀ {n : Nat}, cntP p n = 0 → ∀ k, k < n → p k = false
  | 0, _, k, h => absurd h (by omega)
  | n + 1, h, k, hk => by
    rcases Bool.eq_false_or_eq_true (p n) with hp | hp
    · rw [cntP_hit hp] at h; omega
    · rw [cntP_miss hp] at h
      rcases Nat.lt_or_ge k n with h1 | h1
      · exact cntP_zero h k h1
      · obtain rfl : k = n := by omega
        exact hp
theorem odd_facts {f : Nat → BS} {far : Int} {n : Nat} (h : oddOk f far n = true) : (∀ i, i < n → okS (f i) = true) ∧ (0 ≤ far * far ∧ far * far ≤ 4000000) ∧ ∀ i k, i < n → k < n → k ≠ i → (f i).id ∈ oddL f far n → sqD (f i).x (f i).y (f k).x (f k).y ≤ far * far → lettV (f i) ≠ lettV (f k) := by
  obtain ⟨⟨hg, _⟩, hf⟩ : (goodUpto f n = true ∧ n ≤ 12) ∧ inB far 0 2000 = true := by simpa [oddOk] using h
  refine ⟨good_lt hg, far_bd hf, fun i k hi hk hki hm hs he => ?_⟩
  rw [oddL, if_pos h] at hm
  obtain ⟨j, hj, hp, e⟩ := pick_mem_iff.1 (show (f i).id ∈ pick (oddP f far n) (fun i => (f i).id) n from hm)
  have : j = i := by
    rcases Nat.lt_trichotomy j i with h1 | h1 | h1
    · have := good_asc hg _ _ h1 hi; omega
    · exact h1
    · have := good_asc hg _ _ h1 hj; omega
  subst this
  simp only [oddP, Bool.and_eq_true, decide_eq_true_eq] at hp
  have hl := cntP_zero hp.2 k hk
  simp [likeO, nearO, hki, hs, he] at hl
end Go.Proofs.Ytfecepjdjikenaa
