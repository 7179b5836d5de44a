/- Plain Lean: choosing the shoalest again and again; a list kept in order by putting in, and the same list sorted at the end. No program in sight. -/
import Derived.Test.YtakkgagdbmlafaaSelC
namespace Go.Proofs.Ytakkgagdbmlafaa
/-- the place of a number in an ascending list -/
def posL : List Int → Int → Nat
  | [], _ => 0
  | a :: l, x => if a < x then posL l x + 1 else 0
def putL : List Int → Int → List Int
  | [], x => [x]
  | a :: l, x => if a < x then a :: putL l x else x :: a :: l
theorem posL_le : ∀ (Y : List Int) (x : Int), posL Y x ≤ Y.length
  | [], _ => Nat.le_refl _
  | a :: l, x => by
    unfold posL
    have := posL_le l x
    split <;> simp <;> omega
theorem putL_at : ∀ (Y : List Int) (x : Int), putL Y x = Y.take (posL Y x) ++ x :: Y.drop (posL Y x)
  | [], _ => rfl
  | a :: l, x => by
    unfold putL posL
    split
    · rw [putL_at l x]; rfl
    · rfl
theorem putL_len (Y : List Int) (x : Int) : (putL Y x).length = Y.length + 1 := by
  have := posL_le Y x
  rw [putL_at, List.length_append, List.length_cons, List.length_take, List.length_drop]
  omega
theorem posL_eq : ∀ (Y : List Int) (x : Int) (p : Nat), p ≤ Y.length → (∀ i, i < p → Y.getD i 0 < x) → (p = Y.length ∨ ¬ Y.getD p 0 < x) → posL Y x = p
  | [], _, p, h, _, _ => by
    simp at h
    exact h.symm
  | a :: l, x, p, h, h1, h2 => by
    unfold posL
    rcases Nat.eq_zero_or_pos p with rfl | hp
    · rw [if_neg (by simpa using h2)]
    · obtain ⟨q, rfl⟩ : ∃ q, p = q + 1 := ⟨p - 1, by omega⟩
      rw [if_pos (by simpa using h1 0 (by omega)), posL_eq l x q (by simpa using h) (fun i hi => by simpa using h1 (i + 1) (by omega)) (by simpa using h2)]
theorem putL_perm (Y : List Int) (x : Int) : (putL Y x).Perm (x :: Y) := by
  rw [putL_at]
  refine List.perm_middle.trans ?_
  rw [List.take_append_drop]
theorem putL_mem {Y : List Int} {x y : Int} : y ∈ putL Y x ↔ y = x ∨ y ∈ Y := by rw [(putL_perm Y x).mem_iff, List.mem_cons]
theorem putL_asc : ∀ (Y : List Int) (x : Int), Y.Pairwise (· ≤ ·) → (putL Y x).Pairwise (· ≤ ·)
  | [], x, _ => by simp [putL]
  | a :: l, x, h => by
    rw [List.pairwise_cons] at h
    unfold putL
    split
    · rename_i hx
      rw [List.pairwise_cons]
      refine ⟨fun y hy => ?_, putL_asc l x h.2⟩
      rcases putL_mem.1 hy with rfl | hy
      · omega
      · exact h.1 y hy
    · rename_i hx
      rw [List.pairwise_cons, List.pairwise_cons]
      refine ⟨fun y hy => ?_, h⟩
      rcases List.mem_cons.1 hy with rfl | hy
      · omega
      · have := h.1 y hy
        omega
def ascL (X : List Int) : List Int := X.foldl putL []
theorem ascL_snoc (X : List Int) (x : Int) : ascL (X ++ [x]) = putL (ascL X) x := by simp [ascL, List.foldl_append]
theorem fold_perm : ∀ (X Y : List Int), (X.foldl putL Y).Perm (X ++ Y)
  | [], Y => List.Perm.refl _
  | x :: X, Y => by
    refine (fold_perm X (putL Y x)).trans ?_
    refine ((putL_perm Y x).append_left X).trans ?_
    exact List.perm_middle
theorem fold_asc : ∀ (X Y : List Int), Y.Pairwise (· ≤ ·) → (X.foldl putL Y).Pairwise (· ≤ ·)
  | [], _, h => h
  | x :: X, Y, h => fold_asc X (putL Y x) (putL_asc Y x h)
theorem ascL_perm (X : List Int) : (ascL X).Perm X := by
  have := fold_perm X []
  rwa [List.append_nil] at this
theorem ascL_len (X : List Int) : (ascL X).length = X.length := (ascL_perm X).length_eq
/-- sorted at the end, or kept in order: the same -/
theorem sort_asc (X : List Int) : X.mergeSort (fun x y => decide (x ≤ y)) = ascL X := by
  refine List.Perm.eq_of_pairwise (le := fun a b => a ≤ b) (fun a b _ _ h1 h2 => Int.le_antisymm h1 h2) ?_ (fold_asc X [] List.Pairwise.nil) ((List.mergeSort_perm X _).trans (ascL_perm X).symm)
  have h := List.pairwise_mergeSort (le := fun x y : Int => decide (x ≤ y)) (fun a b c h1 h2 => by simp at h1 h2 ⊢; omega) (fun a b => by simp; omega) X
  exact h.imp (fun h => by simpa using h)
theorem pick_lt {α : Type} {p q : Nat → Bool} {h : Nat → α} : ∀ {n : Nat}, (∀ i, i < n → p i = true → q i = true) → (pick p h n).length ≤ (pick q h n).length ∧ ((∃ i, i < n ∧ q i = true ∧ p i = false) → (pick p h n).length < (pick q h n).length)
  | 0, _ => ⟨Nat.le_refl _, fun ⟨i, hi, _⟩ => absurd hi (Nat.not_lt_zero _)⟩
  | n + 1, hs => by
    obtain ⟨h1, h2⟩ := pick_lt (p := p) (q := q) (h := h) (n := n) (fun i hi => hs i (by omega))
    have h3 := hs n (by omega)
    rcases Bool.eq_false_or_eq_true (q n) with hq | hq
    · rcases Bool.eq_false_or_eq_true (p n) with hp | hp
      · rw [pick_hit hp, pick_hit hq, List.length_append, List.length_append]
        refine ⟨by simp; omega, fun ⟨i, hi, a, b⟩ => ?_⟩
        have hin : i < n := by
          rcases Nat.lt_or_ge i n with h | h
          · exact h
          · have : i = n := by omega
            rw [this, hp] at b
            cases b
        have := h2 ⟨i, hin, a, b⟩
        simp
        omega
      · rw [pick_miss hp, pick_hit hq, List.length_append]
        exact ⟨by simp; omega, fun _ => by simp; omega⟩
    · have hp : p n = false := by
        rcases Bool.eq_false_or_eq_true (p n) with hp | hp
        · rw [h3 hp] at hq; cases hq
        · exact hp
      rw [pick_miss hp, pick_miss hq]
      refine ⟨h1, fun ⟨i, hi, a, b⟩ => h2 ⟨i, ?_, a, b⟩⟩
      rcases Nat.lt_or_ge i n with h | h
      · exact h
      · obtain rfl : i = n := by omega
        rw [hq] at a
        cases a
/-- the first of the least of m numbers -/
def minI (g : Nat → Int) : Nat → Nat
  | 0 => 0
  | m + 1 => if m = 0 then 0 else if g m < g (minI g m) then m else minI g m
theorem minI_lt {g : Nat → Int} : ∀ {m : Nat}, 0 < m → minI g m < m
  | 0, h => absurd h (Nat.lt_irrefl _)
  | m + 1, _ => by
    unfold minI
    split
    · omega
    · have := minI_lt (g := g) (m := m) (by omega)
      split <;> omega
theorem minI_congr {g h : Nat → Int} : ∀ {m : Nat}, (∀ i, i < m → g i = h i) → minI g m = minI h m
  | 0, _ => rfl
  | m + 1, e => by
    unfold minI
    rw [minI_congr (fun i hi => e i (by omega))]
    split
    · rfl
    · rw [e m (by omega), e (minI h m) (by have := minI_lt (g := h) (m := m) (by omega); omega)]
section
variable (f : Nat → SD) (n : Nat) (r : Int)
def opX (X : List Int) : List SD := openS f n (fun i => X.getD i 0) X.length r
def bestS (S : List SD) : Int := (S.getD (minI (fun i => lowV (S.getD i noSD)) S.length) noSD).id
/-- the Ids that are chosen, from those chosen so far on -/
def runX : Nat → List Int → List Int
  | 0, X => X
  | k + 1, X => if (opX f n r X).length = 0 then X else runX k (X ++ [bestS (opX f n r X)])
end
section
variable {f : Nat → SD} {n : Nat} {r : Int}
theorem open_any {X : List Int} {s : SD} : openB f n (fun i => X.getD i 0) X.length r s = !X.any (fun id => standB r (atId f n id) s) := by
  unfold openB
  congr 1
  rw [Bool.eq_iff_iff, hasP_true, List.any_eq_true]
  constructor
  · rintro ⟨i, hi, h⟩
    exact ⟨X.getD i 0, by simp [List.getD, hi], h⟩
  · rintro ⟨x, hx, h⟩
    obtain ⟨i, hi, rfl⟩ := List.mem_iff_getElem.1 hx
    exact ⟨i, hi, by simpa [List.getD, hi] using h⟩
theorem opX_perm {X Y : List Int} (h : X.Perm Y) : opX f n r X = opX f n r Y := by
  unfold opX openS
  refine pick_congr n (fun i _ => ?_) (fun _ _ => rfl)
  unfold openP
  rw [open_any, open_any]
  congr 1
  rw [Bool.eq_iff_iff, List.any_eq_true, List.any_eq_true]
  exact ⟨fun ⟨x, hx, h2⟩ => ⟨x, h.mem_iff.1 hx, h2⟩, fun ⟨x, hx, h2⟩ => ⟨x, h.mem_iff.2 hx, h2⟩⟩
theorem atId_own (hg : goodNAll f n = true) {q : Nat} (hq : q < n) : atId f n (f q).id = f q := by
  rcases idxId_cases f n (f q).id with ⟨_, h⟩ | ⟨k, hk, h1, h2⟩
  · exact absurd rfl (h q hq)
  · have ha := goodN_asc (goodNAll_iff.1 hg).1
    have : k = q := by
      rcases Nat.lt_trichotomy k q with h | h | h
      · have := ha k q h hq; omega
      · exact h
      · have := ha q k h hk; omega
    subst this
    exact atId_of h1
theorem opX_len (X : List Int) : (opX f n r X).length ≤ n := pick_len n
/-- the best of those that are open is one of the list, open, and no chosen one -/
theorem best_in (_hg : goodNAll f n = true) {X : List Int} (h : 0 < (opX f n r X).length) : ∃ q, q < n ∧ openP f n (fun i => X.getD i 0) X.length r q = true ∧ bestS (opX f n r X) = (f q).id ∧ (opX f n r X).getD (minI (fun i => lowV ((opX f n r X).getD i noSD)) (opX f n r X).length) noSD = f q := by
  obtain ⟨q, h1, h2, h3⟩ := pick_mem (p := openP f n (fun i => X.getD i 0) X.length r) (h := f) (n := n) noSD (minI_lt (g := fun i => lowV ((opX f n r X).getD i noSD)) h)
  exact ⟨q, h1, h2, congrArg SD.id h3, h3⟩
theorem stand_own (hr : 0 ≤ r * r) (s : SD) : standB r s s = true := by
  simp [standB, nearB, sqD]
  omega
theorem best_new (hg : goodNAll f n = true) (hr : 0 ≤ r * r) {X : List Int} (h : 0 < (opX f n r X).length) : bestS (opX f n r X) ∉ X := by
  obtain ⟨q, hq, ho, e, -⟩ := best_in hg h
  intro hm
  rw [e] at hm
  unfold openP at ho
  rw [open_any, Bool.not_eq_true', List.any_eq_false] at ho
  exact ho _ hm (by rw [atId_own hg hq]; exact stand_own hr _)
theorem opX_less (hg : goodNAll f n = true) (hr : 0 ≤ r * r) {X : List Int} (h : 0 < (opX f n r X).length) : (opX f n r (X ++ [bestS (opX f n r X)])).length < (opX f n r X).length := by
  obtain ⟨q, hq, ho, e, -⟩ := best_in hg h
  rw [e]
  refine (pick_lt (fun i hi hp => ?_)).2 ⟨q, hq, ho, ?_⟩
  · unfold openP at hp ⊢
    rw [open_any] at hp ⊢
    simp only [List.any_append, Bool.not_or, Bool.and_eq_true] at hp
    exact hp.1
  · unfold openP
    rw [open_any]
    simp [atId_own hg hq, stand_own hr]
theorem run_end {k : Nat} {X : List Int} (h : (opX f n r X).length = 0) : runX f n r k X = X := by
  cases k with
  | zero => rfl
  | succ k => rw [runX, if_pos h]
theorem run_step {k : Nat} {X : List Int} (h : 0 < (opX f n r X).length) : runX f n r (k + 1) X = runX f n r k (X ++ [bestS (opX f n r X)]) := by rw [runX, if_neg (by omega)]
end
end Go.Proofs.Ytakkgagdbmlafaa
