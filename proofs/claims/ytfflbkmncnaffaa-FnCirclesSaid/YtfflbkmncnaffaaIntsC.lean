/- Contracts of the helpers that copy and measure a list of numbers. -/
import Derived.Test.YtfflbkmncnaffaaInts
namespace Go.Proofs.Ytfflbkmncnaffaa
open Go.RowKit
theorem int_infoC : (Try.prog.info? 3).map (fun i => (i.zero, i.size, i.bytes)) = some (some (.int .i64 0), 1, 8) := by kernel_rfl
def FilledI (cs : Array Value) (f : Nat → Int) (n k : Nat) : Prop := cs.size = n * 1 ∧ ∀ i, i < k → cs[i]? = some (.int .i64 (f i))
theorem FilledI.step {cs : Array Value} {f : Nat → Int} {n k : Nat} (h : FilledI cs f n k) (hk : k < n) : FilledI (cs.setIfInBounds k (.int .i64 (f k))) f n (k + 1) := by
  obtain ⟨hs, hc⟩ := h
  refine ⟨by simpa using hs, fun i hi => ?_⟩
  simp only [Array.getElem?_setIfInBounds]
  rcases Nat.lt_or_ge i k with h1 | h1
  · rw [if_neg (by omega)]
    exact hc i h1
  · obtain rfl : i = k := by omega
    rw [if_pos rfl, if_pos (by omega)]
theorem toIntS_ex (A : Option Addr) (n c : Nat) (f : Nat → Int) (w : World) (hS : SlI w A n f) (hn : n ≤ 1048576) : Calls Try.prog 51 #[.slice A n c] w
    fun e w' => ∃ b, e = .returned (.slice (some ⟨b, 0, none⟩) n n) ∧ OwnI w' w.heap.size (some ⟨b, 0, none⟩) n f ∧ Below w.heap.size w w' := by
  obtain ⟨i0, hi, hz0, hz1, hz2⟩ := info_parts int_infoC
  have hmk := run_make_rowN (P := Try.prog) 33 3 i0 _ Try.underlying33 hi hz0 .i64 .i64 n n (Nat.le_refl _) (by rw [hz2]; omega) (by omega)
  rw [hz1] at hmk
  clear hi hz0 hz1 hz2
  go_enter Try.func51, Try.ntmps51
  go_wp2
  go_loopw [4] (fun v4 wr => ∃ (k : Nat) (cs : Array Value), k ≤ n ∧ v4 = .int .i64 k ∧ Blk wr w.heap.size 3 cs ∧ FilledI cs f n k ∧ Below w.heap.size w wr) (fun v4 _ => n - (intOf v4).toNat)
  case atStart => exact ⟨0, _, Nat.zero_le _, rfl, Blk.new _ _ _, ⟨by simp [madeCells], fun i hi => absurd hi (by omega)⟩, by repeat' (first | (with_reducible exact Below.refl _ _) | (with_reducible assumption) | (with_reducible refine Below.alloc ?_ ?_ _) | (with_reducible refine Below.drew ?_) | (with_reducible refine Below.setCell ?_ ?_ _) | (with_reducible refine Below.stepB (by assumption) ?_ ?_) | go_size)⟩
  case round =>
    obtain ⟨k, cs, hk, rfl, hB, hF, hbr⟩ := hrel
    have hzr := hbr.size
    clear hmk
    by_cases hlt : k < n
    · obtain ⟨b, off, rfl, hbl, hbl2, c0⟩ := hS.at hbr hlt
      clear hS
      have hsz := hF.1
      have hbg := hB.lt
      obtain ⟨y0, d0⟩ : ∃ v, wr.cell? ⟨w.heap.size, k, none⟩ = some v := ⟨_, (hB.cell _).trans (Array.getElem?_eq_getElem (by omega))⟩
      have hfz := fun i => hB.frozen i
      go_wp2
      go_roundw
      case rel => exact ⟨k + 1, _, by omega, by go_num, hB.set_ k (.int .i64 (f k)), hF.step hlt, by repeat' (first | (with_reducible exact Below.refl _ _) | (with_reducible assumption) | (with_reducible refine Below.alloc ?_ ?_ _) | (with_reducible refine Below.drew ?_) | (with_reducible refine Below.setCell ?_ ?_ _) | (with_reducible refine Below.stepB (by assumption) ?_ ?_) | go_size)⟩
      case measure => simp [intOf]; omega
    · obtain rfl : k = n := by omega
      clear hS
      go_wp2
      go_ret
      exact ⟨_, rfl, fun _ => ⟨_, _, cs, rfl, Nat.le_refl _, hB, by have := hF.1; omega, fun i j hi hj => by
        obtain rfl : j = 0 := by omega
        rw [Nat.mul_one]
        exact hF.2 i hi⟩, hbr⟩
end Go.Proofs.Ytfflbkmncnaffaa
