/- Contracts of the helpers that copy, compare and mark lists of triples of numbers. -/
import Derived.Test.YtfflbkmncnaffaaPairA
import Derived.Test.YtfflbkmncnaffaaIntsC
import Derived.Test.YtfflbkmncnaffaaMem
namespace Go.Proofs.Ytfflbkmncnaffaa
open Go.RowKit
/-- a slice of triples reads as T -/
def SlT (w : World) (A : Option Addr) (n : Nat) (T : Nat → Nat → Int) : Prop := Sl w 3 A n (fun i j => .int .i64 (T i j))
theorem SlT.at {w wr : World} {A : Option Addr} {n k : Nat} {T : Nat → Nat → Int} (hS : SlT w A n T) (hb : Below w.heap.size w wr) (hk : k < n) : ∃ b off, A = some ⟨b, off, none⟩ ∧ b < w.heap.size ∧ b < wr.heap.size ∧
    wr.cell? ⟨b, off + k * 3, none⟩ = some (.int .i64 (T k 0)) ∧ wr.cell? ⟨b, off + k * 3 + 1, none⟩ = some (.int .i64 (T k 1)) ∧ wr.cell? ⟨b, off + k * 3 + 2, none⟩ = some (.int .i64 (T k 2)) := by
  obtain ⟨b, off, hA, hbl, hc⟩ := hS (by omega)
  have hz := hb.size
  exact ⟨b, off, hA, hbl, by omega, (hb.cell (p := ⟨b, _, none⟩) hbl).trans (hc k 0 hk (by decide)), (hb.cell (p := ⟨b, _, none⟩) hbl).trans (hc k 1 hk (by decide)), (hb.cell (p := ⟨b, _, none⟩) hbl).trans (hc k 2 hk (by decide))⟩
theorem szIntA3S_yes (A : Option Addr) (n c : Nat) (s : Int) (w : World) (hn : n ≤ s) (hs : s ≤ 1048576) : Calls Try.prog 46 #[.slice A n c, .int .i64 s] w fun e w' => e = .returned (.int .i64 (s - n)) ∧ w = w' := by
  go_enter Try.func46, Try.ntmps46
  go_wp2
  go_ret
  exact ⟨rfl, rfl⟩
theorem szIntA3S_no (A : Option Addr) (n c : Nat) (s : Int) (w : World) (hn : s < n) (hs0 : 0 ≤ s) (hm : n ≤ 9223372036854775807) : Calls Try.prog 46 #[.slice A n c, .int .i64 s] w fun e w' => e = .returned (.int .i64 (-1)) ∧ w = w' := by
  go_enter Try.func46, Try.ntmps46
  go_wp2
  go_ret
  exact ⟨rfl, rfl⟩
def c3 (x y z : Int) : Nat → Array Value
  | 0 => #[.int .i64 0, .int .i64 0, .int .i64 0]
  | 1 => #[.int .i64 x, .int .i64 0, .int .i64 0]
  | 2 => #[.int .i64 x, .int .i64 y, .int .i64 0]
  | _ => #[.int .i64 x, .int .i64 y, .int .i64 z]
theorem toIntA3_any (x y z : Int) (w : World) : Calls Try.prog 105 #[.agg #[.int .i64 x, .int .i64 y, .int .i64 z]] w fun e w' => e = .returned (.agg #[.int .i64 x, .int .i64 y, .int .i64 z]) ∧ Below w.heap.size w w' := by
  go_enter Try.func105, Try.ntmps105
  go_wp2
  go_loopw [4] (fun v4 wr => ∃ j : Nat, j ≤ 3 ∧ v4 = .int .i64 j ∧ Blk wr w.heap.size 41 #[.int .i64 x, .int .i64 y, .int .i64 z] ∧ Blk wr (w.heap.size + 1) 41 (c3 x y z 0) ∧ Blk wr (w.heap.size + 2) 41 (c3 x y z j) ∧ Below w.heap.size w wr) (fun v4 _ => 3 - (intOf v4).toNat)
  case atStart => exact ⟨0, by omega, rfl, ((blk_newP w _ _ rfl).alloc _).alloc _, (blk_newP (w.alloc _) _ _ (by simp)).alloc _, blk_newP _ _ _ (by simp), by repeat' (first | (with_reducible exact Below.refl _ _) | (with_reducible assumption) | (with_reducible refine Below.alloc ?_ ?_ _) | (with_reducible refine Below.drew ?_) | (with_reducible refine Below.setCell ?_ ?_ _) | (with_reducible refine Below.stepB (by assumption) ?_ ?_) | go_size)⟩
  case round =>
    obtain ⟨j, hj, rfl, hB, hR, hO, hbr⟩ := hrel
    have hzr := hbr.size
    have p0 : wr.cell? ⟨w.heap.size, 0, none⟩ = some (.int .i64 x) := hB.cell 0
    have p1 : wr.cell? ⟨w.heap.size, 1, none⟩ = some (.int .i64 y) := hB.cell 1
    have p2 : wr.cell? ⟨w.heap.size, 2, none⟩ = some (.int .i64 z) := hB.cell 2
    have hlt := hO.lt
    have hfz := hO.frozen
    have HB := Lib.hid hB
    have HR := Lib.hid hR
    have HO := Lib.hid hO
    obtain rfl | rfl | rfl | rfl : j = 0 ∨ j = 1 ∨ j = 2 ∨ j = 3 := by omega
    · have o0 : wr.cell? ⟨w.heap.size + 2, 0, none⟩ = some (.int .i64 0) := hO.cell 0
      clear hB hR hO
      go_wp2
      go_roundw
      case rel => exact ⟨1, by omega, by go_num, HB.out.far (by show w.heap.size ≠ w.heap.size + 2; omega) _, HR.out.far (by show w.heap.size + 1 ≠ w.heap.size + 2; omega) _, HO.out.set_ 0 (.int .i64 x), by repeat' (first | (with_reducible exact Below.refl _ _) | (with_reducible assumption) | (with_reducible refine Below.alloc ?_ ?_ _) | (with_reducible refine Below.drew ?_) | (with_reducible refine Below.setCell ?_ ?_ _) | (with_reducible refine Below.stepB (by assumption) ?_ ?_) | go_size)⟩
      case measure => simp [intOf]
    · have o1 : wr.cell? ⟨w.heap.size + 2, 1, none⟩ = some (.int .i64 0) := hO.cell 1
      clear hB hR hO
      go_wp2
      go_roundw
      case rel => exact ⟨2, by omega, by go_num, HB.out.far (by show w.heap.size ≠ w.heap.size + 2; omega) _, HR.out.far (by show w.heap.size + 1 ≠ w.heap.size + 2; omega) _, HO.out.set_ 1 (.int .i64 y), by repeat' (first | (with_reducible exact Below.refl _ _) | (with_reducible assumption) | (with_reducible refine Below.alloc ?_ ?_ _) | (with_reducible refine Below.drew ?_) | (with_reducible refine Below.setCell ?_ ?_ _) | (with_reducible refine Below.stepB (by assumption) ?_ ?_) | go_size)⟩
      case measure => simp [intOf]
    · have o2 : wr.cell? ⟨w.heap.size + 2, 2, none⟩ = some (.int .i64 0) := hO.cell 2
      clear hB hR hO
      go_wp2
      go_roundw
      case rel => exact ⟨3, by omega, by go_num, HB.out.far (by show w.heap.size ≠ w.heap.size + 2; omega) _, HR.out.far (by show w.heap.size + 1 ≠ w.heap.size + 2; omega) _, HO.out.set_ 2 (.int .i64 z), by repeat' (first | (with_reducible exact Below.refl _ _) | (with_reducible assumption) | (with_reducible refine Below.alloc ?_ ?_ _) | (with_reducible refine Below.drew ?_) | (with_reducible refine Below.setCell ?_ ?_ _) | (with_reducible refine Below.stepB (by assumption) ?_ ?_) | go_size)⟩
      case measure => simp [intOf]
    · have o0 : wr.cell? ⟨w.heap.size + 2, 0, none⟩ = some (.int .i64 x) := hO.cell 0
      have o1 : wr.cell? ⟨w.heap.size + 2, 1, none⟩ = some (.int .i64 y) := hO.cell 1
      have o2 : wr.cell? ⟨w.heap.size + 2, 2, none⟩ = some (.int .i64 z) := hO.cell 2
      have r0 : wr.cell? ⟨w.heap.size + 1, 0, none⟩ = some (.int .i64 0) := hR.cell 0
      have r1 : wr.cell? ⟨w.heap.size + 1, 1, none⟩ = some (.int .i64 0) := hR.cell 1
      have r2 : wr.cell? ⟨w.heap.size + 1, 2, none⟩ = some (.int .i64 0) := hR.cell 2
      have _hltr := hR.lt
      have hfr := hR.frozen
      clear hB hR hO
      go_wp2
      refine bodyPost_ret (by simp [results, Try.results105, go_sem, r0, r1, r2]; try rfl) rfl ?_
      exact ⟨rfl, by repeat' (first | (with_reducible exact Below.refl _ _) | (with_reducible assumption) | (with_reducible refine Below.alloc ?_ ?_ _) | (with_reducible refine Below.drew ?_) | (with_reducible refine Below.setCell ?_ ?_ _) | (with_reducible refine Below.stepB (by assumption) ?_ ?_) | go_size)⟩
theorem info_Trip : (Try.prog.info? 41).map (fun i => (i.zero, i.size, i.bytes)) = some (some (.agg #[.int .i64 0, .int .i64 0, .int .i64 0]), 3, 24) := by kernel_rfl
def FilledT (cs : Array Value) (T : Nat → Nat → Int) (n k : Nat) : Prop := cs.size = n * 3 ∧ ∀ i j, i < k → j < 3 → cs[i * 3 + j]? = some (.int .i64 (T i j))
theorem FilledT.step {cs : Array Value} {T : Nat → Nat → Int} {n k : Nat} (h : FilledT cs T n k) (hk : k < n) :
    FilledT ((((cs).setIfInBounds (k * 3) (.int .i64 (T k 0))).setIfInBounds (k * 3 + 1) (.int .i64 (T k 1))).setIfInBounds (k * 3 + 2) (.int .i64 (T k 2))) T n (k + 1) := by
  obtain ⟨hs, hc⟩ := h
  refine ⟨by simpa using hs, fun i j hi hj => ?_⟩
  simp only [Array.getElem?_setIfInBounds, Array.size_setIfInBounds]
  rcases Nat.lt_or_ge i k with h1 | h1
  · rw [if_neg (by omega), if_neg (by omega), if_neg (by omega)]
    exact hc i j h1 hj
  · obtain rfl : i = k := by omega
    have : j = 0 ∨ j = 1 ∨ j = 2 := by omega
    rcases this with rfl | rfl | rfl <;> simp [hs] <;> omega
theorem toIntA3S_ex (A : Option Addr) (n c : Nat) (T : Nat → Nat → Int) (w : World) (hS : SlT w A n T) (hn : n ≤ 1048576) : Calls Try.prog 48 #[.slice A n c] w
    fun e w' => ∃ b, e = .returned (.slice (some ⟨b, 0, none⟩) n n) ∧ Own w' w.heap.size 3 (some ⟨b, 0, none⟩) n (fun i j => .int .i64 (T i j)) ∧ Below w.heap.size w w' := by
  obtain ⟨i0, hi, hz0, hz1, hz2⟩ := info_parts info_Trip
  have hmk := run_make_rowN (P := Try.prog) 32 41 i0 _ Try.underlying32 hi hz0 .i64 .i64 n n (Nat.le_refl _) (by rw [hz2]; omega) (by omega)
  rw [hz1] at hmk
  clear hi hz0 hz1 hz2
  go_enter Try.func48, Try.ntmps48
  go_wp2
  go_loopw [4] (fun v4 wr => ∃ (k : Nat) (cs : Array Value), k ≤ n ∧ v4 = .int .i64 k ∧ Blk wr w.heap.size 41 cs ∧ FilledT cs T n k ∧ Below w.heap.size w wr) (fun v4 _ => n - (intOf v4).toNat)
  case atStart => exact ⟨0, _, Nat.zero_le _, rfl, Blk.new _ _ _, ⟨by simp [madeCells], fun i j hi => absurd hi (by omega)⟩, by repeat' (first | (with_reducible exact Below.refl _ _) | (with_reducible assumption) | (with_reducible refine Below.alloc ?_ ?_ _) | (with_reducible refine Below.drew ?_) | (with_reducible refine Below.setCell ?_ ?_ _) | (with_reducible refine Below.stepB (by assumption) ?_ ?_) | go_size)⟩
  case round =>
    obtain ⟨k, cs, hk, rfl, hB, hF, hbr⟩ := hrel
    have hzr := hbr.size
    clear hmk
    by_cases hlt : k < n
    · obtain ⟨b, off, rfl, hbl, hbl2, c0, c1, c2⟩ := hS.at hbr hlt
      clear hS
      have hsz := hF.1
      have hbg := hB.lt
      go_wp2_with fail
      refine (toIntA3_any (T k 0) (T k 1) (T k 2) _).mono ?_
      rintro e w1 ⟨rfl, hbw1⟩
      have hB1 := hB.below hbw1 hbg
      obtain ⟨y0, d0⟩ : ∃ v, w1.cell? ⟨w.heap.size, k * 3, none⟩ = some v := ⟨_, (hB1.cell _).trans (Array.getElem?_eq_getElem (by omega))⟩
      obtain ⟨y1, d1⟩ : ∃ v, w1.cell? ⟨w.heap.size, k * 3 + 1, none⟩ = some v := ⟨_, (hB1.cell _).trans (Array.getElem?_eq_getElem (by omega))⟩
      obtain ⟨y2, d2⟩ : ∃ v, w1.cell? ⟨w.heap.size, k * 3 + 2, none⟩ = some v := ⟨_, (hB1.cell _).trans (Array.getElem?_eq_getElem (by omega))⟩
      have hfz := fun i => hB1.frozen i
      clear c0 c1 c2
      go_wp2
      go_roundw
      case rel => exact ⟨k + 1, _, by omega, by go_num, ((hB1.set_ (k * 3) (.int .i64 (T k 0))).set_ (k * 3 + 1) (.int .i64 (T k 1))).set_ (k * 3 + 2) (.int .i64 (T k 2)), hF.step hlt, by repeat' (first | (with_reducible exact Below.refl _ _) | (with_reducible assumption) | (with_reducible refine Below.alloc ?_ ?_ _) | (with_reducible refine Below.drew ?_) | (with_reducible refine Below.setCell ?_ ?_ _) | (with_reducible refine Below.stepB (by assumption) ?_ ?_) | go_size)⟩
      case measure => simp [intOf]; omega
    · obtain rfl : k = n := by omega
      clear hS
      go_wp2
      go_ret
      exact ⟨_, rfl, fun _ => ⟨_, _, cs, rfl, Nat.le_refl _, hB, by have := hF.1; omega, hF.2⟩, hbr⟩
theorem eqIntA3_same (x y z : Int) (w : World) : Calls Try.prog 107 #[.agg #[.int .i64 x, .int .i64 y, .int .i64 z], .agg #[.int .i64 x, .int .i64 y, .int .i64 z]] w fun e w' => e = .returned (.bool true) ∧ Below w.heap.size w w' := by
  go_enter Try.func107, Try.ntmps107
  go_wp2
  go_loopw [5] (fun v5 wr => ∃ k : Nat, k ≤ 3 ∧ v5 = .int .i64 k ∧ Blk wr w.heap.size 41 #[.int .i64 x, .int .i64 y, .int .i64 z] ∧ Blk wr (w.heap.size + 1) 41 #[.int .i64 x, .int .i64 y, .int .i64 z] ∧ Below w.heap.size w wr) (fun v5 _ => 3 - (intOf v5).toNat)
  case atStart => exact ⟨0, by omega, rfl, (blk_newP w _ _ rfl).alloc _, blk_newP _ _ _ (by simp), by repeat' (first | (with_reducible exact Below.refl _ _) | (with_reducible assumption) | (with_reducible refine Below.alloc ?_ ?_ _) | (with_reducible refine Below.drew ?_) | (with_reducible refine Below.setCell ?_ ?_ _) | (with_reducible refine Below.stepB (by assumption) ?_ ?_) | go_size)⟩
  case round =>
    obtain ⟨k, hk, rfl, hB, hB', hbr⟩ := hrel
    have hzr := hbr.size
    have hg := hB.lt
    have hg' := hB'.lt
    have c0 : wr.cell? ⟨w.heap.size, 0, none⟩ = some (.int .i64 x) := hB.cell 0
    have c1 : wr.cell? ⟨w.heap.size, 1, none⟩ = some (.int .i64 y) := hB.cell 1
    have c2 : wr.cell? ⟨w.heap.size, 2, none⟩ = some (.int .i64 z) := hB.cell 2
    have d0 : wr.cell? ⟨w.heap.size + 1, 0, none⟩ = some (.int .i64 x) := hB'.cell 0
    have d1 : wr.cell? ⟨w.heap.size + 1, 1, none⟩ = some (.int .i64 y) := hB'.cell 1
    have d2 : wr.cell? ⟨w.heap.size + 1, 2, none⟩ = some (.int .i64 z) := hB'.cell 2
    obtain rfl | rfl | rfl | rfl : k = 0 ∨ k = 1 ∨ k = 2 ∨ k = 3 := by omega
    · go_wp2
      refine wp_region_later (by kernel_rfl) (by kernel_rfl) (fun hlx => ?_)
      repeat (go_big_quiet_step (fail))
      refine wpQuiet_nil ?_
      clear hlx
      intro w3 hbw3
      obtain ⟨hzw3, hcw3, hfw3⟩ := bfacts hbw3; (try simp at hzw3 hcw3 hfw3); (try (have : w.heap.size < w3.heap.size := by omega)); (try (have : w.heap.size + 1 < w3.heap.size := by omega)); (try (have : w.heap.size + 1 + 1 < w3.heap.size := by omega)); (try (have : w.heap.size + 1 + 1 + 1 < w3.heap.size := by omega))
      go_wp2
      go_roundw
      case rel => exact ⟨1, by omega, by go_num, hB.below hbw3 (by omega), hB'.below hbw3 (by omega), by repeat' (first | (with_reducible exact Below.refl _ _) | (with_reducible assumption) | (with_reducible refine Below.alloc ?_ ?_ _) | (with_reducible refine Below.drew ?_) | (with_reducible refine Below.setCell ?_ ?_ _) | (with_reducible refine Below.stepB (by assumption) ?_ ?_) | go_size)⟩
      case measure => simp [intOf]
    · go_wp2
      refine wp_region_later (by kernel_rfl) (by kernel_rfl) (fun hlx => ?_)
      repeat (go_big_quiet_step (fail))
      refine wpQuiet_nil ?_
      clear hlx
      intro w3 hbw3
      obtain ⟨hzw3, hcw3, hfw3⟩ := bfacts hbw3; (try simp at hzw3 hcw3 hfw3); (try (have : w.heap.size < w3.heap.size := by omega)); (try (have : w.heap.size + 1 < w3.heap.size := by omega)); (try (have : w.heap.size + 1 + 1 < w3.heap.size := by omega)); (try (have : w.heap.size + 1 + 1 + 1 < w3.heap.size := by omega))
      go_wp2
      go_roundw
      case rel => exact ⟨2, by omega, by go_num, hB.below hbw3 (by omega), hB'.below hbw3 (by omega), by repeat' (first | (with_reducible exact Below.refl _ _) | (with_reducible assumption) | (with_reducible refine Below.alloc ?_ ?_ _) | (with_reducible refine Below.drew ?_) | (with_reducible refine Below.setCell ?_ ?_ _) | (with_reducible refine Below.stepB (by assumption) ?_ ?_) | go_size)⟩
      case measure => simp [intOf]
    · go_wp2
      refine wp_region_later (by kernel_rfl) (by kernel_rfl) (fun hlx => ?_)
      repeat (go_big_quiet_step (fail))
      refine wpQuiet_nil ?_
      clear hlx
      intro w3 hbw3
      obtain ⟨hzw3, hcw3, hfw3⟩ := bfacts hbw3; (try simp at hzw3 hcw3 hfw3); (try (have : w.heap.size < w3.heap.size := by omega)); (try (have : w.heap.size + 1 < w3.heap.size := by omega)); (try (have : w.heap.size + 1 + 1 < w3.heap.size := by omega)); (try (have : w.heap.size + 1 + 1 + 1 < w3.heap.size := by omega))
      go_wp2
      go_roundw
      case rel => exact ⟨3, by omega, by go_num, hB.below hbw3 (by omega), hB'.below hbw3 (by omega), by repeat' (first | (with_reducible exact Below.refl _ _) | (with_reducible assumption) | (with_reducible refine Below.alloc ?_ ?_ _) | (with_reducible refine Below.drew ?_) | (with_reducible refine Below.setCell ?_ ?_ _) | (with_reducible refine Below.stepB (by assumption) ?_ ?_) | go_size)⟩
      case measure => simp [intOf]
    · go_wp2
      go_ret
      exact ⟨rfl, by repeat' (first | (with_reducible exact Below.refl _ _) | (with_reducible assumption) | (with_reducible refine Below.alloc ?_ ?_ _) | (with_reducible refine Below.drew ?_) | (with_reducible refine Below.setCell ?_ ?_ _) | (with_reducible refine Below.stepB (by assumption) ?_ ?_) | go_size)⟩
theorem eqIntA3S_same (A A' : Option Addr) (n c c' : Nat) (T : Nat → Nat → Int) (w : World) (hS : SlT w A n T) (hS' : SlT w A' n T) (hn : n ≤ 1048576) : Calls Try.prog 50 #[.slice A n c, .slice A' n c'] w
    fun e w' => e = .returned (.bool true) ∧ Below w.heap.size w w' := by
  go_enter Try.func50, Try.ntmps50
  go_wp2
  go_loopw [5] (fun v4 wr => ∃ (k : Nat), k ≤ n ∧ v4 = .int .i64 k ∧ Below w.heap.size w wr) (fun v4 _ => n - (intOf v4).toNat)
  case atStart => exact ⟨0, Nat.zero_le _, rfl, Below.refl _ _⟩
  case round =>
    obtain ⟨k, hk, rfl, hbr⟩ := hrel
    have hzr := hbr.size
    by_cases hlt : k < n
    · obtain ⟨b, off, rfl, hbl, hbl2, c0, c1, c2⟩ := hS.at hbr hlt
      obtain ⟨b', off', rfl, hbl', hbl2', e0, e1, e2⟩ := hS'.at hbr hlt
      clear hS hS'
      go_wp2
      refine wp_region_later (by kernel_rfl) (by kernel_rfl) (fun hlx => ?_)
      repeat (go_big_quiet_step ((go_at_call 107; exact Later.call (eqIntA3_same (T k 0) (T k 1) (T k 2) _))))
      refine wpQuiet_nil ?_
      clear hlx
      intro w1 hbw1
      obtain ⟨hzw1, hcw1, hfw1⟩ := bfacts hbw1; (try simp at hzw1 hcw1 hfw1); (try (have : w.heap.size < w1.heap.size := by omega)); (try (have : w.heap.size + 1 < w1.heap.size := by omega)); (try (have : w.heap.size + 1 + 1 < w1.heap.size := by omega)); (try (have : w.heap.size + 1 + 1 + 1 < w1.heap.size := by omega))
      go_wp2
      go_roundw
      case rel => exact ⟨k + 1, by omega, by go_num, by repeat' (first | (with_reducible exact Below.refl _ _) | (with_reducible assumption) | (with_reducible refine Below.alloc ?_ ?_ _) | (with_reducible refine Below.drew ?_) | (with_reducible refine Below.setCell ?_ ?_ _) | (with_reducible refine Below.stepB (by assumption) ?_ ?_) | go_size)⟩
      case measure => simp [intOf]; omega
    · obtain rfl : k = n := by omega
      clear hS hS'
      go_wp2
      go_ret
      exact ⟨rfl, hbr⟩
def mk3 (q : Int) (g : Nat → Nat → Value) (k j : Nat) (a b : Nat) : Value := if a < k ∨ (a = k ∧ b < j) then .int .i64 (q + a * 3 + b) else g a b
theorem mk3_set (q : Int) (g : Nat → Nat → Value) (k j : Nat) (a b : Nat) : (if a = k ∧ b = j then Value.int .i64 (q + k * 3 + j) else mk3 q g k j a b) = mk3 q g k (j + 1) a b := by
  unfold mk3
  by_cases h : a = k
  · subst h
    by_cases h2 : b = j
    · subst h2; simp
    · have e : (b < j + 1) = (b < j) := by rw [eq_iff_iff]; omega
      simp [h2, e]
  · simp [h]
theorem mk3_next (q : Int) (g : Nat → Nat → Value) (k a b : Nat) (hb : b < 3) : mk3 q g k 3 a b = mk3 q g (k + 1) 0 a b := by
  unfold mk3
  have e : (a < k ∨ a = k ∧ b < 3) = (a < k + 1 ∨ a = k + 1 ∧ b < 0) := by rw [eq_iff_iff]; omega
  simp only [e]
theorem markIntA3S_any (A : Option Addr) (n c lo : Nat) (g : Nat → Nat → Value) (w : World) (hO : Own w lo 3 A n g) (hn : n ≤ 1048576) (q : Int) (q0 : 0 ≤ q) (q1 : q ≤ 4000000000000) : Calls Try.prog 54 #[.slice A n c, .int .i64 q] w
    fun e w' => e = .returned (.int .i64 (q + n * 3)) ∧ Own w' lo 3 A n (fun i j => .int .i64 (q + i * 3 + j)) ∧ Kept w w' A n := by
  go_enter Try.func54, Try.ntmps54
  go_wp2
  go_loopw [1, 5] (fun v1 v5 wr => ∃ (k : Nat), k ≤ n ∧ v5 = .int .i64 k ∧ v1 = .int .i64 (q + k * 3) ∧ Own wr lo 3 A n (mk3 q g k 0) ∧ Kept w wr A n) (fun _ v5 _ => n - (intOf v5).toNat)
  case atStart => exact ⟨0, Nat.zero_le _, rfl, by simp, hO.congr (fun i j _ _ => by simp [mk3]), Kept.refl _ _ _⟩
  case round =>
    obtain ⟨k, hk, rfl, rfl, hR, hK⟩ := hrel
    have HR0 := Lib.hid hR
    have HK0 := Lib.hid hK
    clear hO hR hK
    by_cases hlt : k < n
    · obtain ⟨b, rfl⟩ := HR0.out.form (by omega)
      go_wp2
      go_loopw [1, 6] (fun v1 v6 wq => ∃ (j : Nat), j ≤ 3 ∧ v6 = .int .i64 j ∧ v1 = .int .i64 (q + k * 3 + j) ∧ Own wq lo 3 (some ⟨b, 0, none⟩) n (mk3 q g k j) ∧ Kept w wq (some ⟨b, 0, none⟩) n) (fun _ v6 _ => 3 - (intOf v6).toNat)
      case atStart => exact ⟨0, by omega, rfl, by simp, HR0.out, HK0.out⟩
      case round =>
        rename World => wq
        obtain ⟨j, hj, rfl, rfl, hR, hK⟩ := hrel
        obtain ⟨hbl, hfz⟩ := hR.free (by omega)
        have c0 := hR.at_ (i := k) (j := 0) hlt (by decide)
        have c1 := hR.at_ (i := k) (j := 1) hlt (by decide)
        have c2 := hR.at_ (i := k) (j := 2) hlt (by decide)
        simp only [Nat.add_zero] at c0
        have HR := Lib.hid hR
        have HK := Lib.hid hK
        clear hR hK
        obtain rfl | rfl | rfl | rfl : j = 0 ∨ j = 1 ∨ j = 2 ∨ j = 3 := by omega
        · go_wp2
          go_roundw
          case rel => exact ⟨1, by omega, by go_num, by congr 1 <;> simp, Own.congr (HR.out.set0 (i := k) (by decide)) (fun a b' _ _ => by rw [← mk3_set]; simp), HK.out.setCell (by omega) _⟩
          case measure => simp [intOf]
        · go_wp2
          go_roundw
          case rel => exact ⟨2, by omega, by go_num, by congr 1 <;> simp <;> omega, Own.congr (HR.out.set (i := k) (j := 1) (by decide)) (fun a b' _ _ => mk3_set q g k 1 a b'), HK.out.setCell (by omega) _⟩
          case measure => simp [intOf]
        · go_wp2
          go_roundw
          case rel => exact ⟨3, by omega, by go_num, by congr 1 <;> simp <;> omega, Own.congr (HR.out.set (i := k) (j := 2) (by decide)) (fun a b' _ _ => mk3_set q g k 2 a b'), HK.out.setCell (by omega) _⟩
          case measure => simp [intOf]
        · clear c0 c1 c2
          go_wp2
          go_roundw
          case rel => exact ⟨k + 1, by omega, by go_num, by congr 1 <;> simp <;> omega, HR.out.congr (fun a b' _ hb' => mk3_next q g k a b' hb'), HK.out⟩
          case measure => simp [intOf]; omega
    · obtain rfl : k = n := by omega
      go_wp2
      go_ret
      exact ⟨rfl, HR0.out.congr (fun i j hi _ => by simp [mk3, hi]), HK0.out⟩
end Go.Proofs.Ytfflbkmncnaffaa
