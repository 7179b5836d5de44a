/- Memory: rows of the call's own that are written; what stays as it was. No program in sight. -/
import Derived.Test.YtbgpmbaonjehbaaLeaf
namespace Go.Proofs.Ytbgpmbaonjehbaa
open Go.RowKit

/-- a row that is not empty lies in a block from lo on, below hi -/
def InR (A : Option Addr) (n lo hi : Nat) : Prop := 0 < n → ∀ a, A = some a → lo ≤ a.block ∧ a.block < hi
/-- of all that there was only the row at A (if it is not empty) may have changed -/
structure Kept (w w' : World) (A : Option Addr) (n : Nat) : Prop where
  os : w'.os = w.os
  tape : w'.tape = w.tape
  output : w'.output = w.output
  size : w.heap.size ≤ w'.heap.size
  block : ∀ b, b < w.heap.size → (0 < n → ∀ a, A = some a → b ≠ a.block) → w'.heap[b]? = w.heap[b]?
section
variable {w w' w1 : World} {A A' : Option Addr} {n n' lo hi lo' hi' k k' : Nat} {g g' : Nat → Nat → Value}
theorem Kept.refl (w : World) (A : Option Addr) (n : Nat) : Kept w w A n := ⟨rfl, rfl, rfl, Nat.le_refl _, fun _ _ _ => rfl⟩
theorem Kept.setCell {b o : Nat} (h : Kept w w' (some ⟨b, 0, none⟩) n) (hn : 0 < n) (u : Value) : Kept w (w'.setCell ⟨b, o, none⟩ u) (some ⟨b, 0, none⟩) n :=
  ⟨h.os, h.tape, h.output, by simpa [World.setCell] using h.size, fun i hi hne => (Below.heap_setCell w' ⟨b, o, none⟩ u i (hne hn ⟨b, 0, none⟩ rfl)).trans (h.block i hi hne)⟩
theorem Kept.below {B : Nat} (h : Kept w w' A n) (hr : InR A n lo hi) (hB : B ≤ lo) (hs : B ≤ w.heap.size) : Below B w w' :=
  ⟨h.os, h.tape, h.output, h.size, fun b hb => h.block b (by omega) fun hn a ha => by have := (hr hn a ha).1; omega⟩
/-- Below, behind a call that wrote a row of the call's own -/
theorem Below.kept {B : Nat} {w0 : World} (h : Below B w0 w) (hk : Kept w w' A n) (hr : InR A n lo hi) (hB : B ≤ lo) (hs : B ≤ w.heap.size) : Below B w0 w' := h.trans (hk.below hr hB hs)
theorem Own.range (h : Own w lo k A n g) : InR A n lo w.heap.size := fun hn a ha => by
  obtain ⟨b, t, cs, hA, hl, hB, _⟩ := h hn
  rw [hA] at ha
  obtain rfl := Option.some.inj ha
  exact ⟨hl, hB.lt⟩
theorem InR.mono (h : InR A n lo hi) (h1 : lo' ≤ lo) (h2 : hi ≤ hi') : InR A n lo' hi' := fun hn a ha => by have := h hn a ha; omega
theorem Own.kept (h : Own w lo k A n g) (hk : Kept w w' A' n') (hr : InR A n lo hi) (hr' : InR A' n' lo' hi') (hne : hi ≤ lo' ∨ hi' ≤ lo) : Own w' lo k A n g := fun hn => by
  obtain ⟨b, t, cs, hA, hl, hB, hs, hc⟩ := h hn
  refine ⟨b, t, cs, hA, hl, (hk.block b hB.lt fun hn' a ha => ?_).trans hB, hs, hc⟩
  have h1 := hr hn _ hA
  have h2 := hr' hn' a ha
  simp only at h1
  omega
theorem Sl.kept (h : Sl w k A n g) (hk : Kept w w' A' n') (hr' : InR A' n' lo' hi') (hlo : w1.heap.size ≤ lo') (hr : InR A n 0 w1.heap.size) : Sl w' k A n g := fun hn => by
  obtain ⟨b, off, hA, hl, hc⟩ := h hn
  have h1 := hr hn _ hA
  simp only at h1
  have hb := hk.block b hl fun hn' a ha => by have h2 := hr' hn' a ha; omega
  have := hk.size
  refine ⟨b, off, hA, by omega, fun i j hi hj => (World.cell?_of_block (w := w) hb).trans (hc i j hi hj)⟩
theorem Sl.range (h : Sl w k A n g) : InR A n 0 w.heap.size := fun hn a ha => by
  obtain ⟨b, off, hA, hl, _⟩ := h hn
  rw [hA] at ha
  obtain rfl := Option.some.inj ha
  exact ⟨Nat.zero_le _, hl⟩
theorem Own.congr (h : Own w lo k A n g) (hg : ∀ i j, i < n → j < k → g i j = g' i j) : Own w lo k A n g' := fun hn => by
  obtain ⟨b, t, cs, hA, hl, hB, hs, hc⟩ := h hn
  exact ⟨b, t, cs, hA, hl, hB, hs, fun i j hi hj => by rw [← hg i j hi hj]; exact hc i j hi hj⟩
theorem Own.more (h : Own w lo k A n g) (hl : lo' ≤ lo) : Own w lo' k A n g := fun hn => by
  obtain ⟨b, t, cs, hA, h1, hB, hs, hc⟩ := h hn
  exact ⟨b, t, cs, hA, by omega, hB, hs, hc⟩
theorem lex_eq {i j i' j' k : Nat} (hj : j < k) (hj' : j' < k) (h : i * k + j = i' * k + j') : i = i' ∧ j = j' := by
  have h1 : (i * k + j) / k = i := by rw [Nat.mul_comm, Nat.mul_add_div (by omega), Nat.div_eq_of_lt hj, Nat.add_zero]
  have h2 : (i' * k + j') / k = i' := by rw [Nat.mul_comm, Nat.mul_add_div (by omega), Nat.div_eq_of_lt hj', Nat.add_zero]
  have h3 : i = i' := by rw [← h1, ← h2, h]
  subst h3
  exact ⟨rfl, by omega⟩
theorem Own.set {b i j : Nat} {u : Value} (h : Own w lo k (some ⟨b, 0, none⟩) n g) (hj : j < k) :
    Own (w.setCell ⟨b, i * k + j, none⟩ u) lo k (some ⟨b, 0, none⟩) n (fun i' j' => if i' = i ∧ j' = j then u else g i' j') := fun hn => by
  obtain ⟨b', t, cs, hA, hl, hB, hs, hc⟩ := h hn
  obtain rfl : b = b' := by simpa using hA
  refine ⟨b, t, _, rfl, hl, hB.set_ (i * k + j) u, by simpa using hs, fun i' j' hi' hj' => ?_⟩
  rw [Array.getElem?_setIfInBounds]
  have hlt : i' * k + j' < cs.size := by
    rcases Nat.lt_or_ge (i' * k + j') cs.size with h1 | h1
    · exact h1
    · have := hc i' j' hi' hj'
      rw [Array.getElem?_eq_none h1] at this
      cases this
  by_cases he : i' = i ∧ j' = j
  · obtain ⟨rfl, rfl⟩ := he
    simp [hlt]
  · have hne : ¬ i * k + j = i' * k + j' := fun h => he (by have := lex_eq hj hj' h; exact ⟨this.1.symm, this.2.symm⟩)
    rw [if_neg hne]
    show _ = some (if i' = i ∧ j' = j then u else g i' j')
    rw [if_neg he]
    exact hc i' j' hi' hj'
theorem Own.set0 {b i : Nat} {u : Value} (h : Own w lo k (some ⟨b, 0, none⟩) n g) (hk : 0 < k) :
    Own (w.setCell ⟨b, i * k, none⟩ u) lo k (some ⟨b, 0, none⟩) n (fun i' j' => if i' = i ∧ j' = 0 then u else g i' j') := h.set (i := i) (j := 0) (u := u) hk
/-- one cell of a row of the call's own: it is there and may be written -/
theorem Own.at_ {b i j : Nat} (h : Own w lo k (some ⟨b, 0, none⟩) n g) (hi : i < n) (hj : j < k) : w.cell? ⟨b, i * k + j, none⟩ = some (g i j) := by
  obtain ⟨b', t, cs, hA, hl, hB, hs, hc⟩ := h (by omega)
  obtain rfl : b = b' := by simpa using hA
  rw [hB.cell]
  exact hc i j hi hj
theorem Own.free {b : Nat} (h : Own w lo k (some ⟨b, 0, none⟩) n g) (hn : 0 < n) : b < w.heap.size ∧ ∀ i, w.frozen? ⟨b, i, none⟩ = false := by
  obtain ⟨b', t, cs, hA, hl, hB, hs, hc⟩ := h hn
  obtain rfl : b = b' := by simpa using hA
  exact ⟨hB.lt, hB.frozen⟩
theorem Own.form (h : Own w lo k A n g) (hn : 0 < n) : ∃ b, A = some ⟨b, 0, none⟩ := by
  obtain ⟨b, t, cs, hA, _⟩ := h hn
  exact ⟨b, hA⟩
end
end Go.Proofs.Ytbgpmbaonjehbaa
