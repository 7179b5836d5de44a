/- Lists of Spots: how they read in memory; the law's helpers on them: size, copy, equality, marks. -/
import Derived.Test.YtfflbkmncnaffaaMem
import Derived.Test.YtfflbkmncnaffaaBase
namespace Go.Proofs.Ytfflbkmncnaffaa
open Go.RowKit
/-- a Spot's numbers -/
structure SP where
  x : Int
  y : Int
def SP.cell (s : SP) : Nat → Value
  | 0 => .int .i64 s.x
  | _ => .int .i64 s.y
def SP.arr (s : SP) : Array Value := #[.int .i64 s.x, .int .i64 s.y]
def SlSP (w : World) (A : Option Addr) (n : Nat) (f : Nat → SP) : Prop := Sl w 2 A n (fun i j => (f i).cell j)
theorem SlSP.at {w wr : World} {A : Option Addr} {n k : Nat} {f : Nat → SP} (hS : SlSP w A n f) (hb : Below w.heap.size w wr) (hk : k < n) : ∃ b off, A = some ⟨b, off, none⟩ ∧ b < w.heap.size ∧ b < wr.heap.size ∧
    wr.cell? ⟨b, off + k * 2, none⟩ = some (.int .i64 (f k).x) ∧ wr.cell? ⟨b, off + k * 2 + 1, none⟩ = some (.int .i64 (f k).y) ∧ Hid (∀ m j, m < n → j < 2 → wr.cell? ⟨b, off + m * 2 + j, none⟩ = some ((f m).cell j)) := by
  obtain ⟨b, off, hA, hbl, hc⟩ := hS (by omega)
  have hz := hb.size
  exact ⟨b, off, hA, hbl, by omega, (hb.cell (p := ⟨b, _, none⟩) hbl).trans (hc k 0 hk (by decide)), (hb.cell (p := ⟨b, _, none⟩) hbl).trans (hc k 1 hk (by decide)), fun m j hm hj => (hb.cell (p := ⟨b, _, none⟩) hbl).trans (hc m j hm hj)⟩
theorem BlkSP.cells {w : World} {g : Nat} {t : TypeId} {s : SP} (h : Blk w g t s.arr) : g < w.heap.size ∧ w.cell? ⟨g, 0, none⟩ = some (.int .i64 s.x) ∧ w.cell? ⟨g, 1, none⟩ = some (.int .i64 s.y) ∧ (∀ i, w.frozen? ⟨g, i, none⟩ = false) :=
  ⟨h.lt, h.cell 0, h.cell 1, h.frozen⟩
theorem szSpotS_yes (A : Option Addr) (n c : Nat) (w : World) (hn : n ≤ 1048576) : Calls Try.prog 45 #[.slice A n c, .int .i64 1048576] w fun e w' => e = .returned (.int .i64 (1048576 - n)) ∧ w = w' := by
  go_enter Try.func45, Try.ntmps45
  go_wp2
  go_ret
  exact ⟨rfl, rfl⟩
theorem szSpotS_no (A : Option Addr) (n c : Nat) (w : World) (hn : 1048576 < n) (hm : n ≤ 9223372036854775807) : Calls Try.prog 45 #[.slice A n c, .int .i64 1048576] w fun e w' => e = .returned (.int .i64 (-1)) ∧ w = w' := by
  go_enter Try.func45, Try.ntmps45
  go_wp2
  go_ret
  exact ⟨rfl, rfl⟩
theorem info_Spot : (Try.prog.info? 26).map (fun i => (i.zero, i.size, i.bytes)) = some (some (.agg #[.int .i64 0, .int .i64 0]), 2, 16) := by kernel_rfl
/-- the first k elements are written -/
def FilledSP (cs : Array Value) (f : Nat → SP) (n k : Nat) : Prop := cs.size = n * 2 ∧ ∀ i j, i < k → j < 2 → cs[i * 2 + j]? = some ((f i).cell j)
theorem FilledSP.step {cs : Array Value} {f : Nat → SP} {n k : Nat} (h : FilledSP cs f n k) (hk : k < n) :
    FilledSP (((cs).setIfInBounds (k * 2) (.int .i64 (f k).x)).setIfInBounds (k * 2 + 1) (.int .i64 (f k).y)) f n (k + 1) := by
  obtain ⟨hs, hc⟩ := h
  refine ⟨by simpa using hs, fun i j hi hj => ?_⟩
  simp only [Array.getElem?_setIfInBounds, Array.size_setIfInBounds]
  rcases Nat.lt_or_ge i k with h1 | h1
  · rw [if_neg (by omega), if_neg (by omega)]
    exact hc i j h1 hj
  · obtain rfl : i = k := by omega
    have : j = 0 ∨ j = 1 := by omega
    rcases this with rfl | rfl <;> simp [SP.cell, hs] <;> omega
theorem toSpotS_any (A : Option Addr) (n c : Nat) (f : Nat → SP) (w : World) (hS : SlSP w A n f) (hn : n ≤ 1048576) : Calls Try.prog 47 #[.slice A n c] w
    fun e w' => e = .returned (.slice (some ⟨w.heap.size, 0, none⟩) n n) ∧ Own w' w.heap.size 2 (some ⟨w.heap.size, 0, none⟩) n (fun i j => (f i).cell j) ∧ Below w.heap.size w w' := by
  obtain ⟨i0, hi, hz0, hz1, hz2⟩ := info_parts info_Spot
  have hmk := run_make_rowN (P := Try.prog) 31 26 i0 _ Try.underlying31 hi hz0 .i64 .i64 n n (Nat.le_refl _) (by rw [hz2]; omega) (by omega)
  rw [hz1] at hmk
  clear hi hz0 hz1 hz2
  go_enter Try.func47, Try.ntmps47
  go_wp2
  go_loopw [4] (fun v4 wr => ∃ (k : Nat) (cs : Array Value), k ≤ n ∧ v4 = .int .i64 k ∧ Blk wr w.heap.size 26 cs ∧ FilledSP cs f n k ∧ Below w.heap.size w wr) (fun v4 _ => n - (intOf v4).toNat)
  case atStart => exact ⟨0, _, Nat.zero_le _, rfl, Blk.new _ _ _, ⟨by simp [madeCells], fun i j hi => absurd hi (by omega)⟩, by repeat' (first | (with_reducible exact Below.refl _ _) | (with_reducible assumption) | (with_reducible refine Below.alloc ?_ ?_ _) | (with_reducible refine Below.drew ?_) | (with_reducible refine Below.setCell ?_ ?_ _) | (with_reducible refine Below.stepB (by assumption) ?_ ?_) | go_size)⟩
  case round =>
    obtain ⟨k, cs, hk, rfl, hB, hF, hbr⟩ := hrel
    have hzr := hbr.size
    clear hmk
    by_cases hlt : k < n
    · obtain ⟨b, off, rfl, hbl, hbl2, c0, c1, hc⟩ := hS.at hbr hlt
      clear hS hc
      have hsz := hF.1
      have hbg := hB.lt
      go_wp2_with fail
      refine (toSpot_bel (f k).x (f k).y _).mono ?_
      rintro e w1 ⟨rfl, hbw1⟩
      have hB1 := hB.below hbw1 hbg
      obtain ⟨y0, d0⟩ : ∃ v, w1.cell? ⟨w.heap.size, k * 2, none⟩ = some v := ⟨_, (hB1.cell _).trans (Array.getElem?_eq_getElem (by omega))⟩
      obtain ⟨y1, d1⟩ : ∃ v, w1.cell? ⟨w.heap.size, k * 2 + 1, none⟩ = some v := ⟨_, (hB1.cell _).trans (Array.getElem?_eq_getElem (by omega))⟩
      have hfz := fun i => hB1.frozen i
      clear c0 c1
      go_wp2
      go_roundw
      case rel => exact ⟨k + 1, _, by omega, by go_num, (hB1.set_ (k * 2) (.int .i64 (f k).x)).set_ (k * 2 + 1) (.int .i64 (f k).y), hF.step hlt, by repeat' (first | (with_reducible exact Below.refl _ _) | (with_reducible assumption) | (with_reducible refine Below.alloc ?_ ?_ _) | (with_reducible refine Below.drew ?_) | (with_reducible refine Below.setCell ?_ ?_ _) | (with_reducible refine Below.stepB (by assumption) ?_ ?_) | go_size)⟩
      case measure => simp [intOf]; omega
    · obtain rfl : k = n := by omega
      clear hS
      go_wp2
      go_ret
      exact ⟨rfl, fun _ => ⟨_, _, cs, rfl, Nat.le_refl _, hB, by have := hF.1; omega, hF.2⟩, hbr⟩
theorem toSpotS_ex (A : Option Addr) (n c : Nat) (f : Nat → SP) (w : World) (hS : SlSP w A n f) (hn : n ≤ 1048576) : Calls Try.prog 47 #[.slice A n c] w
    fun e w' => ∃ b, e = .returned (.slice (some ⟨b, 0, none⟩) n n) ∧ Own w' w.heap.size 2 (some ⟨b, 0, none⟩) n (fun i j => (f i).cell j) ∧ Below w.heap.size w w' :=
  (toSpotS_any A n c f w hS hn).mono fun _ _ ⟨h1, h2, h3⟩ => ⟨_, h1, h2, h3⟩
theorem eqSpotS_same (A A' : Option Addr) (n c c' : Nat) (f : Nat → SP) (w : World) (hS : SlSP w A n f) (hS' : SlSP w A' n f) (hn : n ≤ 1048576) : Calls Try.prog 49 #[.slice A n c, .slice A' n c'] w
    fun e w' => e = .returned (.bool true) ∧ Below w.heap.size w w' := by
  go_enter Try.func49, Try.ntmps49
  go_wp2
  go_loopw [5] (fun v4 wr => ∃ (k : Nat), k ≤ n ∧ v4 = .int .i64 k ∧ Below w.heap.size w wr) (fun v4 _ => n - (intOf v4).toNat)
  case atStart => exact ⟨0, Nat.zero_le _, rfl, Below.refl _ _⟩
  case round =>
    obtain ⟨k, hk, rfl, hbr⟩ := hrel
    have hzr := hbr.size
    by_cases hlt : k < n
    · obtain ⟨b, off, rfl, hbl, hbl2, c0, c1, hc⟩ := hS.at hbr hlt
      obtain ⟨b', off', rfl, hbl', hbl2', e0, e1, hc'⟩ := hS'.at hbr hlt
      clear hS hc hS' hc'
      go_wp2
      refine wp_region_later (by kernel_rfl) (by kernel_rfl) (fun hlx => ?_)
      repeat (go_big_quiet_step ((go_at_call 106; exact Later.call (eqSpot_same (f k).x (f k).y _))))
      refine wpQuiet_nil ?_
      clear hlx
      intro w1 hbw1
      obtain ⟨hzw1, hcw1, hfw1⟩ := bfacts hbw1; (try simp at hzw1 hcw1 hfw1); (try (have : w.heap.size < w1.heap.size := by omega)); (try (have : w.heap.size + 1 < w1.heap.size := by omega)); (try (have : w.heap.size + 1 + 1 < w1.heap.size := by omega)); (try (have : w.heap.size + 1 + 1 + 1 < w1.heap.size := by omega))
      go_wp2
      go_roundw
      case rel => exact ⟨k + 1, by omega, by go_num, by repeat' (first | (with_reducible exact Below.refl _ _) | (with_reducible assumption) | (with_reducible refine Below.alloc ?_ ?_ _) | (with_reducible refine Below.drew ?_) | (with_reducible refine Below.setCell ?_ ?_ _) | (with_reducible refine Below.stepB (by assumption) ?_ ?_) | go_size)⟩
      case measure => simp [intOf]; omega
    · obtain rfl : k = n := by omega
      clear hS hS'
      go_wp2
      go_ret
      exact ⟨rfl, hbr⟩
theorem markSpotS_any (A : Option Addr) (n c lo : Nat) (g : Nat → Nat → Value) (w : World) (hO : Own w lo 2 A n g) (hn : n ≤ 1048576) (q : Int) (q0 : 0 ≤ q) (q1 : q ≤ 4000000000000) : Calls Try.prog 53 #[.slice A n c, .int .i64 q] w
    fun e w' => e = .returned (.int .i64 (q + n * 2)) ∧ Own w' lo 2 A n (fun i j => .int .i64 (q + i * 2 + j)) ∧ Kept w w' A n := by
  go_enter Try.func53, Try.ntmps53
  go_wp2
  go_loopw [1, 5] (fun v1 v5 wr => ∃ (k : Nat), k ≤ n ∧ v5 = .int .i64 k ∧ v1 = .int .i64 (q + k * 2) ∧ Own wr lo 2 A n (fun i j => if i < k then .int .i64 (q + i * 2 + j) else g i j) ∧ Kept w wr A n) (fun _ v5 _ => n - (intOf v5).toNat)
  case atStart => exact ⟨0, Nat.zero_le _, rfl, by simp, hO.congr (fun i j _ _ => by simp), Kept.refl _ _ _⟩
  case round =>
    obtain ⟨k, hk, rfl, rfl, hR, hK⟩ := hrel
    clear hO
    by_cases hlt : k < n
    · obtain ⟨b, rfl⟩ := hR.form (by omega)
      have c0 := hR.at_ (i := k) (j := 0) hlt (by decide)
      have c1 := hR.at_ (i := k) (j := 1) hlt (by decide)
      simp at c0 c1
      obtain ⟨hbl, hfz⟩ := hR.free (by omega)
      have HR := Lib.hid hR
      clear hR
      go_wp2
      go_roundw
      case rel =>
        refine ⟨k + 1, by omega, by go_num, by congr 1; omega, ?_, (hK.setCell (by omega) _).setCell (by omega) _⟩
        refine Own.congr ((HR.out.set0 (i := k) (by decide)).set (i := k) (j := 1) (by decide)) (fun i j hi hj => ?_)
        by_cases h1 : i = k
        · subst h1
          have : j = 0 ∨ j = 1 := by omega
          rcases this with rfl | rfl <;> simp <;> omega
        · simp [h1, show (i < k + 1) = (i < k) from by rw [eq_iff_iff]; omega]
      case measure => simp [intOf]; omega
    · obtain rfl : k = n := by omega
      have HR := Lib.hid hR
      clear hR
      go_wp2
      go_ret
      exact ⟨rfl, HR.out.congr (fun i j hi _ => by simp [hi]), hK⟩
end Go.Proofs.Ytfflbkmncnaffaa
