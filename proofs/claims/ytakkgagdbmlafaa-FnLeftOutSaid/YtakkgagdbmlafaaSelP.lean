/- Plain Lean on selections of soundings: found ones, ascending ones, near ones, those that stand for another one. No program in sight. -/
import Derived.Test.YtakkgagdbmlafaaFind
namespace Go.Proofs.Ytakkgagdbmlafaa
/-- the first k ascend and lie in a range -/
def ascN (L : Nat → Int) (lo hi : Int) : Nat → Bool
  | 0 => true
  | k + 1 => ascN L lo hi k && inB (L k) lo hi && (decide (k = 0) || decide (L (k - 1) < L k))
theorem ascN_in {L : Nat → Int} {lo hi : Int} {k : Nat} (h : inB (L k) lo hi = false) : ∀ n, k < n → ascN L lo hi n = false
  | 0, h0 => absurd h0 (by omega)
  | n + 1, h0 => by
    rcases Nat.lt_or_ge k n with h1 | h1
    · simp [ascN, ascN_in h n h1]
    · obtain rfl : k = n := by omega
      simp [ascN, h]
theorem ascN_id {L : Nat → Int} {lo hi : Int} {m : Nat} (h : L (m + 1) ≤ L m) : ∀ n, m + 1 < n → ascN L lo hi n = false
  | 0, h0 => absurd h0 (by omega)
  | n + 1, h0 => by
    rcases Nat.lt_or_ge (m + 1) n with h1 | h1
    · simp [ascN, ascN_id h n h1]
    · obtain rfl : n = m + 1 := by omega
      simp [ascN]; omega
/-- the first k are found and ascend -/
def fndN (f : Nat → SD) (n : Nat) (L : Nat → Int) : Nat → Bool
  | 0 => true
  | k + 1 => fndN f n L k && decide (0 ≤ idxId f n (L k)) && (decide (k = 0) || decide (L (k - 1) < L k))
theorem fndN_in {f : Nat → SD} {n : Nat} {L : Nat → Int} {k : Nat} (h : idxId f n (L k) < 0) : ∀ m, k < m → fndN f n L m = false
  | 0, h0 => absurd h0 (by omega)
  | m + 1, h0 => by
    rcases Nat.lt_or_ge k m with h1 | h1
    · simp [fndN, fndN_in h m h1]
    · obtain rfl : k = m := by omega
      simp [fndN]; omega
theorem fndN_id {f : Nat → SD} {n : Nat} {L : Nat → Int} {q : Nat} (h : L (q + 1) ≤ L q) : ∀ m, q + 1 < m → fndN f n L m = false
  | 0, h0 => absurd h0 (by omega)
  | m + 1, h0 => by
    rcases Nat.lt_or_ge (q + 1) m with h1 | h1
    · simp [fndN, fndN_id h m h1]
    · obtain rfl : m = q + 1 := by omega
      simp [fndN]; omega
theorem idxId_cases (f : Nat → SD) (n : Nat) (id : Int) : (idxId f n id = -1 ∧ ∀ i, i < n → (f i).id ≠ id) ∨ ∃ k : Nat, k < n ∧ idxId f n id = (k : Int) ∧ (f k).id = id := by
  rcases idxP_cases (fun i => decide ((f i).id = id)) n with ⟨h1, h2⟩ | ⟨k, h1, h2, h3, -⟩
  · exact .inl ⟨h1, fun i hi h => by have := h2 i hi; simp [h] at this⟩
  · exact .inr ⟨k, h1, h2, by simpa using h3⟩
/-- all of m numbers are Ids that occur -/
def fndB (f : Nat → SD) (n : Nat) (L : Nat → Int) (m : Nat) : Bool := allUpto (fun i => decide (0 ≤ idxId f n (L i))) m
theorem fndB_at {f : Nat → SD} {n : Nat} {L : Nat → Int} {m k : Nat} (h : fndB f n L m = true) (hk : k < m) : ∃ q : Nat, q < n ∧ idxId f n (L k) = (q : Int) ∧ (f q).id = L k := by
  have h1 := allUpto_lt h k hk
  simp only [decide_eq_true_eq] at h1
  rcases idxId_cases f n (L k) with ⟨h2, _⟩ | h2
  · omega
  · exact h2
/-- a selection: the soundings are valid, the chosen Ids ascend and occur -/
def selB (f : Nat → SD) (n : Nat) (L : Nat → Int) (m : Nat) : Bool := goodNAll f n && (ascN L 1 999 m && fndB f n L m)
theorem selB_spec (f : Nat → SD) (n : Nat) (L : Nat → Int) (m : Nat) : (fndN f n L m && goodNAll f n) = selB f n L m := by
  unfold selB
  rcases Bool.eq_false_or_eq_true (goodNAll f n) with hg | hg
  · rw [hg, Bool.and_true, Bool.true_and]
    have hgn := (goodNAll_iff.1 hg).1
    induction m with
    | zero => rfl
    | succ k ih =>
      unfold fndN ascN fndB allUpto
      rw [ih]
      unfold fndB
      rcases idxId_cases f n (L k) with ⟨h2, _⟩ | ⟨q, h1, h2, h3⟩
      · simp [h2]
      · have h4 := okN_bd (goodN_lt hgn q h1)
        have h5 : inB (L k) 1 999 = true := by rw [inB_iff, ← h3]; omega
        rw [h2, h5]
        simp only [Int.natCast_nonneg, decide_true, Bool.and_true]
        cases ascN L 1 999 k <;> cases allUpto (fun i => decide (0 ≤ idxId f n (L i))) k <;> simp
  · simp [hg]
theorem selB_parts {f : Nat → SD} {n : Nat} {L : Nat → Int} {m : Nat} (h : selB f n L m = true) : goodNAll f n = true ∧ ascN L 1 999 m = true ∧ fndB f n L m = true := by
  simpa [selB, and_assoc] using h
theorem fndB_len {f : Nat → SD} {n : Nat} {L : Nat → Int} {m : Nat} (h : selB f n L m = true) : m ≤ 999 := by
  obtain ⟨_, h2, _⟩ := selB_parts h
  have key : ∀ k, ascN L 1 999 k = true → 0 < k → (k : Int) ≤ L (k - 1) ∧ L (k - 1) ≤ 999 := by
    intro k
    induction k with
    | zero => intro _ h; omega
    | succ k ih =>
      intro hk _
      simp only [ascN, Bool.and_eq_true, Bool.or_eq_true, decide_eq_true_eq] at hk
      obtain ⟨⟨hk1, hk2⟩, hk3⟩ := hk
      have hk2 := inB_iff.1 hk2
      rw [Nat.add_sub_cancel]
      rcases Nat.eq_zero_or_pos k with rfl | hp
      · omega
      · have := ih hk1 hp
        rcases hk3 with hk3 | hk3
        · omega
        · omega
  rcases Nat.eq_zero_or_pos m with rfl | hp
  · omega
  · have := key m h2 hp
    omega
/-- the one of an Id -/
def atId (f : Nat → SD) (n : Nat) (id : Int) : SD := f (idxId f n id).toNat
def nearB (r : Int) (a b : SD) : Bool := decide (sqD a.x a.y b.x b.y ≤ r * r)
def standB (r : Int) (a b : SD) : Bool := nearB r a b && decide (lowV a ≤ lowV b)
/-- none of the chosen ones stands for it -/
def openB (f : Nat → SD) (n : Nat) (L : Nat → Int) (m : Nat) (r : Int) (s : SD) : Bool := !hasP (fun i => standB r (atId f n (L i)) s) m
def openP (f : Nat → SD) (n : Nat) (L : Nat → Int) (m : Nat) (r : Int) (j : Nat) : Bool := openB f n L m r (f j)
def openL (f : Nat → SD) (n : Nat) (L : Nat → Int) (m : Nat) (r : Int) : List Int := pick (openP f n L m r) (fun j => (f j).id) n
def openS (f : Nat → SD) (n : Nat) (L : Nat → Int) (m : Nat) (r : Int) : List SD := pick (openP f n L m r) f n
theorem openS_ids (f : Nat → SD) (n : Nat) (L : Nat → Int) (m : Nat) (r : Int) : (openS f n L m r).map SD.id = openL f n L m r := pick_map SD.id n
theorem openL_len (f : Nat → SD) (n : Nat) (L : Nat → Int) (m : Nat) (r : Int) : (openL f n L m r).length ≤ n := pick_len n
theorem openS_len (f : Nat → SD) (n : Nat) (L : Nat → Int) (m : Nat) (r : Int) : (openS f n L m r).length = (openL f n L m r).length := by rw [← openS_ids, List.length_map]
theorem rad_bd {r : Int} (h : inB r 1 1000 = true) : 1 ≤ r * r ∧ r * r ≤ 1000000 := by
  obtain ⟨h1, h2⟩ := inB_iff.1 h
  have a := Int.mul_le_mul h2 h2 (by omega) (by decide)
  have b := Int.mul_le_mul h1 h1 (by decide) (by omega)
  omega
/-- asked well: a selection and a radius -/
def askB (f : Nat → SD) (n : Nat) (L : Nat → Int) (m : Nat) (r : Int) : Bool := selB f n L m && inB r 1 1000
/-- thin: no two chosen ones are near each other -/
def thinP (f : Nat → SD) (n : Nat) (L : Nat → Int) (r : Int) (i : Nat) : Bool := !hasP (fun k => nearB r (atId f n (L i)) (atId f n (L k))) i
def thinB (f : Nat → SD) (n : Nat) (L : Nat → Int) (m : Nat) (r : Int) : Bool := allUpto (thinP f n L r) m
end Go.Proofs.Ytakkgagdbmlafaa
