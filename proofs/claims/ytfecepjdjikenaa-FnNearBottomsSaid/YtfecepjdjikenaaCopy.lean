/- The law's helpers on a list of samples: its size, its copy, equality. -/
import Derived.Test.YtfecepjdjikenaaGood
namespace Go.Proofs.Ytfecepjdjikenaa
open Go.RowKit
theorem sz_yes (A : Option Addr) (n c : Nat) (w : World) (hn : n ≤ 1048576) : Calls Try.prog 22 #[.slice A n c, .int .i64 1048576] w fun e w' => e = .returned (.int .i64 (1048576 - n)) ∧ w = w' := by
  go_enter Try.func22, Try.ntmps22
  go_wp2
  go_ret
  exact ⟨rfl, rfl⟩
theorem sz_no (A : Option Addr) (n c : Nat) (w : World) (hn : 1048576 < n) (hm : n ≤ 9223372036854775807) : Calls Try.prog 22 #[.slice A n c, .int .i64 1048576] w fun e w' => e = .returned (.int .i64 (-1)) ∧ w = w' := by
  go_enter Try.func22, Try.ntmps22
  go_wp2
  go_ret
  exact ⟨rfl, rfl⟩
theorem eqSpot_same (x y : Int) (w : World) : Calls Try.prog 93 #[.agg #[.int .i64 x, .int .i64 y], .agg #[.int .i64 x, .int .i64 y]] w fun e w' => e = .returned (.bool true) ∧ Below w.heap.size w w' := by
  go_enter Try.func93, Try.ntmps93
  go_wp2
  go_ret
  exact ⟨rfl, by repeat' (first | (with_reducible exact Below.refl _ _) | (with_reducible assumption) | (with_reducible refine Below.alloc ?_ ?_ _) | (with_reducible refine Below.drew ?_) | (with_reducible refine Below.setCell ?_ ?_ _) | (with_reducible refine Below.stepB (by assumption) ?_ ?_) | go_size)⟩
theorem info_sample : (Try.prog.info? 29).map (fun i => (i.zero, i.size, i.bytes)) = some (some (.agg #[.int .i64 0, .int .i64 0, .int .i64 0, .int .i64 0, .int .i64 0, .int .i64 0]), 6, 48) := by kernel_rfl
/-- the first k elements are written -/
def FilledS (cs : Array Value) (f : Nat → BS) (n k : Nat) : Prop := cs.size = n * 6 ∧ ∀ i j, i < k → j < 6 → cs[i * 6 + j]? = some ((f i).cell j)
theorem FilledS.step {cs : Array Value} {f : Nat → BS} {n k : Nat} (h : FilledS cs f n k) (hk : k < n) :
    FilledS ((((((cs.setIfInBounds (k * 6) (.int .i64 (f k).id)).setIfInBounds (k * 6 + 1) (.int .i64 (f k).x)).setIfInBounds (k * 6 + 2) (.int .i64 (f k).y)).setIfInBounds (k * 6 + 3) (.int .i64 (f k).mud)).setIfInBounds (k * 6 + 4) (.int .i64 (f k).sand)).setIfInBounds (k * 6 + 5) (.int .i64 (f k).rock)) f n (k + 1) := by
  obtain ⟨hs, hc⟩ := h
  refine ⟨by simpa using hs, fun i j hi hj => ?_⟩
  simp only [Array.getElem?_setIfInBounds, Array.size_setIfInBounds]
  rcases Nat.lt_or_ge i k with h1 | h1
  · rw [if_neg (by omega), if_neg (by omega), if_neg (by omega), if_neg (by omega), if_neg (by omega), if_neg (by omega)]
    exact hc i j h1 hj
  · obtain rfl : i = k := by omega
    have : j = 0 ∨ j = 1 ∨ j = 2 ∨ j = 3 ∨ j = 4 ∨ j = 5 := by omega
    rcases this with rfl | rfl | rfl | rfl | rfl | rfl <;> simp [BS.cell, hs] <;> omega
theorem toBottomSampleS_any (A : Option Addr) (n c : Nat) (f : Nat → BS) (w : World) (hS : SlS w A n f) (hn : n ≤ 1048576) : Calls Try.prog 24 #[.slice A n c] w
    fun e w' => e = .returned (.slice (some ⟨w.heap.size, 0, none⟩) n n) ∧ Own w' w.heap.size 6 (some ⟨w.heap.size, 0, none⟩) n (fun i j => (f i).cell j) ∧ Below w.heap.size w w' := by
  obtain ⟨i0, hi, hz0, hz1, hz2⟩ := info_parts info_sample
  have hmk := run_make_rowN (P := Try.prog) 40 29 i0 _ Try.underlying40 hi hz0 .i64 .i64 n n (Nat.le_refl _) (by rw [hz2]; omega) (by omega)
  rw [hz1] at hmk
  clear hi hz0 hz1 hz2
  go_enter Try.func24, Try.ntmps24
  go_wp2
  go_loopw [4] (fun v4 wr => ∃ (k : Nat) (cs : Array Value), k ≤ n ∧ v4 = .int .i64 k ∧ Blk wr w.heap.size 29 cs ∧ FilledS cs f n k ∧ Below w.heap.size w wr) (fun v4 _ => n - (intOf v4).toNat)
  case atStart => exact ⟨0, _, Nat.zero_le _, rfl, Blk.new _ _ _, ⟨by simp [madeCells], fun i j hi => absurd hi (by omega)⟩, by repeat' (first | (with_reducible exact Below.refl _ _) | (with_reducible assumption) | (with_reducible refine Below.alloc ?_ ?_ _) | (with_reducible refine Below.drew ?_) | (with_reducible refine Below.setCell ?_ ?_ _) | (with_reducible refine Below.stepB (by assumption) ?_ ?_) | go_size)⟩
  case round =>
    obtain ⟨k, cs, hk, rfl, hB, hF, hbr⟩ := hrel
    have hzr := hbr.size
    clear hmk
    by_cases hlt : k < n
    · obtain ⟨b, off, rfl, hbl, hbl2, c0, c1, c2, c3, c4, c5, hc⟩ := hS.at hbr hlt
      clear hS hc
      have hsz := hF.1
      have hbg := hB.lt
      go_wp2_with fail
      refine (toBottomSample_any (f k) _).mono ?_
      rintro e w1 ⟨rfl, hbw1⟩
      have hB1 := hB.below hbw1 hbg
      obtain ⟨d0, d1, d2, d3, d4, d5⟩ : (∃ v, w1.cell? ⟨w.heap.size, k * 6, none⟩ = some v) ∧ (∃ v, w1.cell? ⟨w.heap.size, k * 6 + 1, none⟩ = some v) ∧ (∃ v, w1.cell? ⟨w.heap.size, k * 6 + 2, none⟩ = some v) ∧ (∃ v, w1.cell? ⟨w.heap.size, k * 6 + 3, none⟩ = some v) ∧ (∃ v, w1.cell? ⟨w.heap.size, k * 6 + 4, none⟩ = some v) ∧ (∃ v, w1.cell? ⟨w.heap.size, k * 6 + 5, none⟩ = some v) :=
        ⟨⟨_, (hB1.cell _).trans (Array.getElem?_eq_getElem (by omega))⟩, ⟨_, (hB1.cell _).trans (Array.getElem?_eq_getElem (by omega))⟩, ⟨_, (hB1.cell _).trans (Array.getElem?_eq_getElem (by omega))⟩, ⟨_, (hB1.cell _).trans (Array.getElem?_eq_getElem (by omega))⟩, ⟨_, (hB1.cell _).trans (Array.getElem?_eq_getElem (by omega))⟩, ⟨_, (hB1.cell _).trans (Array.getElem?_eq_getElem (by omega))⟩⟩
      obtain ⟨y0, d0⟩ := d0
      obtain ⟨y1, d1⟩ := d1
      obtain ⟨y2, d2⟩ := d2
      obtain ⟨y3, d3⟩ := d3
      obtain ⟨y4, d4⟩ := d4
      obtain ⟨y5, d5⟩ := d5
      have hfz := fun i => hB1.frozen i
      clear c0 c1 c2 c3 c4 c5
      go_wp2
      go_roundw
      case rel => exact ⟨k + 1, _, by omega, by go_num, (((((hB1.set_ (k * 6) (.int .i64 (f k).id)).set_ (k * 6 + 1) (.int .i64 (f k).x)).set_ (k * 6 + 2) (.int .i64 (f k).y)).set_ (k * 6 + 3) (.int .i64 (f k).mud)).set_ (k * 6 + 4) (.int .i64 (f k).sand)).set_ (k * 6 + 5) (.int .i64 (f k).rock), hF.step hlt, by repeat' (first | (with_reducible exact Below.refl _ _) | (with_reducible assumption) | (with_reducible refine Below.alloc ?_ ?_ _) | (with_reducible refine Below.drew ?_) | (with_reducible refine Below.setCell ?_ ?_ _) | (with_reducible refine Below.stepB (by assumption) ?_ ?_) | go_size)⟩
      case measure => simp [intOf]; omega
    · obtain rfl : k = n := by omega
      clear hS
      go_wp2
      go_ret
      exact ⟨rfl, fun _ => ⟨_, _, cs, rfl, Nat.le_refl _, hB, by have := hF.1; omega, hF.2⟩, hbr⟩
theorem toBottomSampleS_ex (A : Option Addr) (n c : Nat) (f : Nat → BS) (w : World) (hS : SlS w A n f) (hn : n ≤ 1048576) : Calls Try.prog 24 #[.slice A n c] w
    fun e w' => ∃ b, e = .returned (.slice (some ⟨b, 0, none⟩) n n) ∧ Own w' w.heap.size 6 (some ⟨b, 0, none⟩) n (fun i j => (f i).cell j) ∧ Below w.heap.size w w' :=
  (toBottomSampleS_any A n c f w hS hn).mono fun _ _ ⟨h1, h2, h3⟩ => ⟨_, h1, h2, h3⟩
theorem eqBottomSample_same (s : BS) (w : World) : Calls Try.prog 69 #[.agg #[.int .i64 s.id, .int .i64 s.x, .int .i64 s.y, .int .i64 s.mud, .int .i64 s.sand, .int .i64 s.rock], .agg #[.int .i64 s.id, .int .i64 s.x, .int .i64 s.y, .int .i64 s.mud, .int .i64 s.sand, .int .i64 s.rock]] w fun e w' => e = .returned (.bool true) ∧ Below w.heap.size w w' := by
  go_enter Try.func69, Try.ntmps69
  go_wp2_with (go_at_call 93; refine (eqSpot_same _ _ _).mono ?_; rintro e w1 ⟨rfl, hbw1⟩; obtain ⟨hzw1, hcw1, hfw1⟩ := bfacts hbw1; (try simp at hzw1 hcw1 hfw1); (try (have : w.heap.size < w1.heap.size := by omega)); (try (have : w.heap.size + 1 < w1.heap.size := by omega)); (try (have : w.heap.size + 1 + 1 < w1.heap.size := by omega)); (try (have : w.heap.size + 1 + 1 + 1 < w1.heap.size := by omega)))
  go_ret
  exact ⟨rfl, by repeat' (first | (with_reducible exact Below.refl _ _) | (with_reducible assumption) | (with_reducible refine Below.alloc ?_ ?_ _) | (with_reducible refine Below.drew ?_) | (with_reducible refine Below.setCell ?_ ?_ _) | (with_reducible refine Below.stepB (by assumption) ?_ ?_) | go_size)⟩
theorem eqBottomSampleS_same (A A' : Option Addr) (n c c' : Nat) (f : Nat → BS) (w : World) (hS : SlS w A n f) (hS' : SlS w A' n f) (hn : n ≤ 1048576) : Calls Try.prog 26 #[.slice A n c, .slice A' n c'] w
    fun e w' => e = .returned (.bool true) ∧ Below w.heap.size w w' := by
  go_enter Try.func26, Try.ntmps26
  go_wp2
  go_loopw [5] (fun v4 wr => ∃ (k : Nat), k ≤ n ∧ v4 = .int .i64 k ∧ Below w.heap.size w wr) (fun v4 _ => n - (intOf v4).toNat)
  case atStart => exact ⟨0, Nat.zero_le _, rfl, Below.refl _ _⟩
  case round =>
    obtain ⟨k, hk, rfl, hbr⟩ := hrel
    have hzr := hbr.size
    by_cases hlt : k < n
    · obtain ⟨b, off, rfl, hbl, hbl2, c0, c1, c2, c3, c4, c5, hc⟩ := hS.at hbr hlt
      obtain ⟨b', off', rfl, hbl', hbl2', c0', c1', c2', c3', c4', c5', hc'⟩ := hS'.at hbr hlt
      clear hS hc hS' hc'
      go_wp2
      refine wp_region_later (by kernel_rfl) (by kernel_rfl) (fun hlx => ?_)
      repeat (go_big_quiet_step ((go_at_call 69; exact Later.call (eqBottomSample_same (f k) _))))
      refine wpQuiet_nil ?_
      clear hlx
      intro w1 hbw1
      obtain ⟨hzw1, hcw1, hfw1⟩ := bfacts hbw1; (try simp at hzw1 hcw1 hfw1); (try (have : w.heap.size < w1.heap.size := by omega)); (try (have : w.heap.size + 1 < w1.heap.size := by omega)); (try (have : w.heap.size + 1 + 1 < w1.heap.size := by omega)); (try (have : w.heap.size + 1 + 1 + 1 < w1.heap.size := by omega))
      go_wp2
      go_roundw
      case rel => exact ⟨k + 1, by omega, by go_num, by repeat' (first | (with_reducible exact Below.refl _ _) | (with_reducible assumption) | (with_reducible refine Below.alloc ?_ ?_ _) | (with_reducible refine Below.drew ?_) | (with_reducible refine Below.setCell ?_ ?_ _) | (with_reducible refine Below.stepB (by assumption) ?_ ?_) | go_size)⟩
      case measure => simp [intOf]; omega
    · obtain rfl : k = n := by omega
      clear hS hS'
      go_wp2
      go_ret
      exact ⟨rfl, hbr⟩
end Go.Proofs.Ytfecepjdjikenaa
