/- Lists of Soundings: how they read in memory; the law's helpers on them: size, copy, equality, marks. -/
import Derived.Test.YtfflbkmncnaffaaMem
import Derived.Test.YtfflbkmncnaffaaBase
namespace Go.Proofs.Ytfflbkmncnaffaa
open Go.RowKit
/-- a Sounding's numbers -/
structure SD where
  id : Int
  x : Int
  y : Int
  depth : Int
  doubt : Int
def SD.cell (s : SD) : Nat → Value
  | 0 => .int .i64 s.id
  | 1 => .int .i64 s.x
  | 2 => .int .i64 s.y
  | 3 => .int .i64 s.depth
  | _ => .int .i64 s.doubt
def SD.arr (s : SD) : Array Value := #[.int .i64 s.id, .int .i64 s.x, .int .i64 s.y, .int .i64 s.depth, .int .i64 s.doubt]
def SlSD (w : World) (A : Option Addr) (n : Nat) (f : Nat → SD) : Prop := Sl w 5 A n (fun i j => (f i).cell j)
theorem SlSD.at {w wr : World} {A : Option Addr} {n k : Nat} {f : Nat → SD} (hS : SlSD w A n f) (hb : Below w.heap.size w wr) (hk : k < n) : ∃ b off, A = some ⟨b, off, none⟩ ∧ b < w.heap.size ∧ b < wr.heap.size ∧
    wr.cell? ⟨b, off + k * 5, none⟩ = some (.int .i64 (f k).id) ∧ wr.cell? ⟨b, off + k * 5 + 1, none⟩ = some (.int .i64 (f k).x) ∧ wr.cell? ⟨b, off + k * 5 + 2, none⟩ = some (.int .i64 (f k).y) ∧ wr.cell? ⟨b, off + k * 5 + 3, none⟩ = some (.int .i64 (f k).depth) ∧ wr.cell? ⟨b, off + k * 5 + 4, none⟩ = some (.int .i64 (f k).doubt) ∧ Hid (∀ m j, m < n → j < 5 → wr.cell? ⟨b, off + m * 5 + j, none⟩ = some ((f m).cell j)) := by
  obtain ⟨b, off, hA, hbl, hc⟩ := hS (by omega)
  have hz := hb.size
  exact ⟨b, off, hA, hbl, by omega, (hb.cell (p := ⟨b, _, none⟩) hbl).trans (hc k 0 hk (by decide)), (hb.cell (p := ⟨b, _, none⟩) hbl).trans (hc k 1 hk (by decide)), (hb.cell (p := ⟨b, _, none⟩) hbl).trans (hc k 2 hk (by decide)), (hb.cell (p := ⟨b, _, none⟩) hbl).trans (hc k 3 hk (by decide)), (hb.cell (p := ⟨b, _, none⟩) hbl).trans (hc k 4 hk (by decide)), fun m j hm hj => (hb.cell (p := ⟨b, _, none⟩) hbl).trans (hc m j hm hj)⟩
theorem BlkSD.cells {w : World} {g : Nat} {t : TypeId} {s : SD} (h : Blk w g t s.arr) : g < w.heap.size ∧ w.cell? ⟨g, 0, none⟩ = some (.int .i64 s.id) ∧ w.cell? ⟨g, 1, none⟩ = some (.int .i64 s.x) ∧ w.cell? ⟨g, 2, none⟩ = some (.int .i64 s.y) ∧ w.cell? ⟨g, 3, none⟩ = some (.int .i64 s.depth) ∧ w.cell? ⟨g, 4, none⟩ = some (.int .i64 s.doubt) ∧ (∀ i, w.frozen? ⟨g, i, none⟩ = false) :=
  ⟨h.lt, h.cell 0, h.cell 1, h.cell 2, h.cell 3, h.cell 4, h.frozen⟩
theorem szSoundingS_yes (A : Option Addr) (n c : Nat) (w : World) (hn : n ≤ 1048576) : Calls Try.prog 60 #[.slice A n c, .int .i64 1048576] w fun e w' => e = .returned (.int .i64 (1048576 - n)) ∧ w = w' := by
  go_enter Try.func60, Try.ntmps60
  go_wp2
  go_ret
  exact ⟨rfl, rfl⟩
theorem szSoundingS_no (A : Option Addr) (n c : Nat) (w : World) (hn : 1048576 < n) (hm : n ≤ 9223372036854775807) : Calls Try.prog 60 #[.slice A n c, .int .i64 1048576] w fun e w' => e = .returned (.int .i64 (-1)) ∧ w = w' := by
  go_enter Try.func60, Try.ntmps60
  go_wp2
  go_ret
  exact ⟨rfl, rfl⟩
theorem toSounding_any (s : SD) (w : World) : Calls Try.prog 109 #[.agg #[.int .i64 s.id, .int .i64 s.x, .int .i64 s.y, .int .i64 s.depth, .int .i64 s.doubt]] w fun e w' => e = .returned (.agg #[.int .i64 s.id, .int .i64 s.x, .int .i64 s.y, .int .i64 s.depth, .int .i64 s.doubt]) ∧ Below w.heap.size w w' := by
  go_enter Try.func109, Try.ntmps109
  go_wp2_with (go_at_call 15; refine (toSpot_any _ _ _).mono ?_; rintro e w' ⟨rfl, rfl⟩)
  go_returns
  exact ⟨rfl, by repeat' (first | (with_reducible exact Below.refl _ _) | (with_reducible assumption) | (with_reducible refine Below.alloc ?_ ?_ _) | (with_reducible refine Below.drew ?_) | (with_reducible refine Below.setCell ?_ ?_ _) | (with_reducible refine Below.stepB (by assumption) ?_ ?_) | go_size)⟩
theorem info_Sounding : (Try.prog.info? 65).map (fun i => (i.zero, i.size, i.bytes)) = some (some (.agg #[.int .i64 0, .int .i64 0, .int .i64 0, .int .i64 0, .int .i64 0]), 5, 40) := by kernel_rfl
/-- the first k elements are written -/
def FilledSD (cs : Array Value) (f : Nat → SD) (n k : Nat) : Prop := cs.size = n * 5 ∧ ∀ i j, i < k → j < 5 → cs[i * 5 + j]? = some ((f i).cell j)
theorem FilledSD.step {cs : Array Value} {f : Nat → SD} {n k : Nat} (h : FilledSD cs f n k) (hk : k < n) :
    FilledSD ((((((cs).setIfInBounds (k * 5) (.int .i64 (f k).id)).setIfInBounds (k * 5 + 1) (.int .i64 (f k).x)).setIfInBounds (k * 5 + 2) (.int .i64 (f k).y)).setIfInBounds (k * 5 + 3) (.int .i64 (f k).depth)).setIfInBounds (k * 5 + 4) (.int .i64 (f k).doubt)) f n (k + 1) := by
  obtain ⟨hs, hc⟩ := h
  refine ⟨by simpa using hs, fun i j hi hj => ?_⟩
  simp only [Array.getElem?_setIfInBounds, Array.size_setIfInBounds]
  rcases Nat.lt_or_ge i k with h1 | h1
  · rw [if_neg (by omega), if_neg (by omega), if_neg (by omega), if_neg (by omega), if_neg (by omega)]
    exact hc i j h1 hj
  · obtain rfl : i = k := by omega
    have : j = 0 ∨ j = 1 ∨ j = 2 ∨ j = 3 ∨ j = 4 := by omega
    rcases this with rfl | rfl | rfl | rfl | rfl <;> simp [SD.cell, hs] <;> omega
theorem toSoundingS_any (A : Option Addr) (n c : Nat) (f : Nat → SD) (w : World) (hS : SlSD w A n f) (hn : n ≤ 1048576) : Calls Try.prog 61 #[.slice A n c] w
    fun e w' => e = .returned (.slice (some ⟨w.heap.size, 0, none⟩) n n) ∧ Own w' w.heap.size 5 (some ⟨w.heap.size, 0, none⟩) n (fun i j => (f i).cell j) ∧ Below w.heap.size w w' := by
  obtain ⟨i0, hi, hz0, hz1, hz2⟩ := info_parts info_Sounding
  have hmk := run_make_rowN (P := Try.prog) 60 65 i0 _ Try.underlying60 hi hz0 .i64 .i64 n n (Nat.le_refl _) (by rw [hz2]; omega) (by omega)
  rw [hz1] at hmk
  clear hi hz0 hz1 hz2
  go_enter Try.func61, Try.ntmps61
  go_wp2
  go_loopw [4] (fun v4 wr => ∃ (k : Nat) (cs : Array Value), k ≤ n ∧ v4 = .int .i64 k ∧ Blk wr w.heap.size 65 cs ∧ FilledSD cs f n k ∧ Below w.heap.size w wr) (fun v4 _ => n - (intOf v4).toNat)
  case atStart => exact ⟨0, _, Nat.zero_le _, rfl, Blk.new _ _ _, ⟨by simp [madeCells], fun i j hi => absurd hi (by omega)⟩, by repeat' (first | (with_reducible exact Below.refl _ _) | (with_reducible assumption) | (with_reducible refine Below.alloc ?_ ?_ _) | (with_reducible refine Below.drew ?_) | (with_reducible refine Below.setCell ?_ ?_ _) | (with_reducible refine Below.stepB (by assumption) ?_ ?_) | go_size)⟩
  case round =>
    obtain ⟨k, cs, hk, rfl, hB, hF, hbr⟩ := hrel
    have hzr := hbr.size
    clear hmk
    by_cases hlt : k < n
    · obtain ⟨b, off, rfl, hbl, hbl2, c0, c1, c2, c3, c4, hc⟩ := hS.at hbr hlt
      clear hS hc
      have hsz := hF.1
      have hbg := hB.lt
      go_wp2_with fail
      refine (toSounding_any (f k) _).mono ?_
      rintro e w1 ⟨rfl, hbw1⟩
      have hB1 := hB.below hbw1 hbg
      obtain ⟨y0, d0⟩ : ∃ v, w1.cell? ⟨w.heap.size, k * 5, none⟩ = some v := ⟨_, (hB1.cell _).trans (Array.getElem?_eq_getElem (by omega))⟩
      obtain ⟨y1, d1⟩ : ∃ v, w1.cell? ⟨w.heap.size, k * 5 + 1, none⟩ = some v := ⟨_, (hB1.cell _).trans (Array.getElem?_eq_getElem (by omega))⟩
      obtain ⟨y2, d2⟩ : ∃ v, w1.cell? ⟨w.heap.size, k * 5 + 2, none⟩ = some v := ⟨_, (hB1.cell _).trans (Array.getElem?_eq_getElem (by omega))⟩
      obtain ⟨y3, d3⟩ : ∃ v, w1.cell? ⟨w.heap.size, k * 5 + 3, none⟩ = some v := ⟨_, (hB1.cell _).trans (Array.getElem?_eq_getElem (by omega))⟩
      obtain ⟨y4, d4⟩ : ∃ v, w1.cell? ⟨w.heap.size, k * 5 + 4, none⟩ = some v := ⟨_, (hB1.cell _).trans (Array.getElem?_eq_getElem (by omega))⟩
      have hfz := fun i => hB1.frozen i
      clear c0 c1 c2 c3 c4
      go_wp2
      go_roundw
      case rel => exact ⟨k + 1, _, by omega, by go_num, ((((hB1.set_ (k * 5) (.int .i64 (f k).id)).set_ (k * 5 + 1) (.int .i64 (f k).x)).set_ (k * 5 + 2) (.int .i64 (f k).y)).set_ (k * 5 + 3) (.int .i64 (f k).depth)).set_ (k * 5 + 4) (.int .i64 (f k).doubt), hF.step hlt, by repeat' (first | (with_reducible exact Below.refl _ _) | (with_reducible assumption) | (with_reducible refine Below.alloc ?_ ?_ _) | (with_reducible refine Below.drew ?_) | (with_reducible refine Below.setCell ?_ ?_ _) | (with_reducible refine Below.stepB (by assumption) ?_ ?_) | go_size)⟩
      case measure => simp [intOf]; omega
    · obtain rfl : k = n := by omega
      clear hS
      go_wp2
      go_ret
      exact ⟨rfl, fun _ => ⟨_, _, cs, rfl, Nat.le_refl _, hB, by have := hF.1; omega, hF.2⟩, hbr⟩
theorem toSoundingS_ex (A : Option Addr) (n c : Nat) (f : Nat → SD) (w : World) (hS : SlSD w A n f) (hn : n ≤ 1048576) : Calls Try.prog 61 #[.slice A n c] w
    fun e w' => ∃ b, e = .returned (.slice (some ⟨b, 0, none⟩) n n) ∧ Own w' w.heap.size 5 (some ⟨b, 0, none⟩) n (fun i j => (f i).cell j) ∧ Below w.heap.size w w' :=
  (toSoundingS_any A n c f w hS hn).mono fun _ _ ⟨h1, h2, h3⟩ => ⟨_, h1, h2, h3⟩
theorem eqSounding_same (s : SD) (w : World) : Calls Try.prog 110 #[.agg #[.int .i64 s.id, .int .i64 s.x, .int .i64 s.y, .int .i64 s.depth, .int .i64 s.doubt], .agg #[.int .i64 s.id, .int .i64 s.x, .int .i64 s.y, .int .i64 s.depth, .int .i64 s.doubt]] w fun e w' => e = .returned (.bool true) ∧ Below w.heap.size w w' := by
  go_enter Try.func110, Try.ntmps110
  go_wp2_with (go_at_call 106; refine (eqSpot_same _ _ _).mono ?_; rintro e w1 ⟨rfl, hbw1⟩; obtain ⟨hzw1, hcw1, hfw1⟩ := bfacts hbw1; (try simp at hzw1 hcw1 hfw1); (try (have : w.heap.size < w1.heap.size := by omega)); (try (have : w.heap.size + 1 < w1.heap.size := by omega)); (try (have : w.heap.size + 1 + 1 < w1.heap.size := by omega)); (try (have : w.heap.size + 1 + 1 + 1 < w1.heap.size := by omega)))
  go_ret
  exact ⟨rfl, by repeat' (first | (with_reducible exact Below.refl _ _) | (with_reducible assumption) | (with_reducible refine Below.alloc ?_ ?_ _) | (with_reducible refine Below.drew ?_) | (with_reducible refine Below.setCell ?_ ?_ _) | (with_reducible refine Below.stepB (by assumption) ?_ ?_) | go_size)⟩
theorem eqSoundingS_same (A A' : Option Addr) (n c c' : Nat) (f : Nat → SD) (w : World) (hS : SlSD w A n f) (hS' : SlSD w A' n f) (hn : n ≤ 1048576) : Calls Try.prog 62 #[.slice A n c, .slice A' n c'] w
    fun e w' => e = .returned (.bool true) ∧ Below w.heap.size w w' := by
  go_enter Try.func62, Try.ntmps62
  go_wp2
  go_loopw [5] (fun v4 wr => ∃ (k : Nat), k ≤ n ∧ v4 = .int .i64 k ∧ Below w.heap.size w wr) (fun v4 _ => n - (intOf v4).toNat)
  case atStart => exact ⟨0, Nat.zero_le _, rfl, Below.refl _ _⟩
  case round =>
    obtain ⟨k, hk, rfl, hbr⟩ := hrel
    have hzr := hbr.size
    by_cases hlt : k < n
    · obtain ⟨b, off, rfl, hbl, hbl2, c0, c1, c2, c3, c4, hc⟩ := hS.at hbr hlt
      obtain ⟨b', off', rfl, hbl', hbl2', e0, e1, e2, e3, e4, hc'⟩ := hS'.at hbr hlt
      clear hS hc hS' hc'
      go_wp2
      refine wp_region_later (by kernel_rfl) (by kernel_rfl) (fun hlx => ?_)
      repeat (go_big_quiet_step ((go_at_call 110; exact Later.call (eqSounding_same (f k) _))))
      refine wpQuiet_nil ?_
      clear hlx
      intro w1 hbw1
      obtain ⟨hzw1, hcw1, hfw1⟩ := bfacts hbw1; (try simp at hzw1 hcw1 hfw1); (try (have : w.heap.size < w1.heap.size := by omega)); (try (have : w.heap.size + 1 < w1.heap.size := by omega)); (try (have : w.heap.size + 1 + 1 < w1.heap.size := by omega)); (try (have : w.heap.size + 1 + 1 + 1 < w1.heap.size := by omega))
      go_wp2
      go_roundw
      case rel => exact ⟨k + 1, by omega, by go_num, by repeat' (first | (with_reducible exact Below.refl _ _) | (with_reducible assumption) | (with_reducible refine Below.alloc ?_ ?_ _) | (with_reducible refine Below.drew ?_) | (with_reducible refine Below.setCell ?_ ?_ _) | (with_reducible refine Below.stepB (by assumption) ?_ ?_) | go_size)⟩
      case measure => simp [intOf]; omega
    · obtain rfl : k = n := by omega
      clear hS hS'
      go_wp2
      go_ret
      exact ⟨rfl, hbr⟩
theorem markSoundingS_any (A : Option Addr) (n c lo : Nat) (g : Nat → Nat → Value) (w : World) (hO : Own w lo 5 A n g) (hn : n ≤ 1048576) (q : Int) (q0 : 0 ≤ q) (q1 : q ≤ 4000000000000) : Calls Try.prog 63 #[.slice A n c, .int .i64 q] w
    fun e w' => e = .returned (.int .i64 (q + n * 5)) ∧ Own w' lo 5 A n (fun i j => .int .i64 (q + i * 5 + j)) ∧ Kept w w' A n := by
  go_enter Try.func63, Try.ntmps63
  go_wp2
  go_loopw [1, 5] (fun v1 v5 wr => ∃ (k : Nat), k ≤ n ∧ v5 = .int .i64 k ∧ v1 = .int .i64 (q + k * 5) ∧ Own wr lo 5 A n (fun i j => if i < k then .int .i64 (q + i * 5 + j) else g i j) ∧ Kept w wr A n) (fun _ v5 _ => n - (intOf v5).toNat)
  case atStart => exact ⟨0, Nat.zero_le _, rfl, by simp, hO.congr (fun i j _ _ => by simp), Kept.refl _ _ _⟩
  case round =>
    obtain ⟨k, hk, rfl, rfl, hR, hK⟩ := hrel
    clear hO
    by_cases hlt : k < n
    · obtain ⟨b, rfl⟩ := hR.form (by omega)
      have c0 := hR.at_ (i := k) (j := 0) hlt (by decide)
      have c1 := hR.at_ (i := k) (j := 1) hlt (by decide)
      have c2 := hR.at_ (i := k) (j := 2) hlt (by decide)
      have c3 := hR.at_ (i := k) (j := 3) hlt (by decide)
      have c4 := hR.at_ (i := k) (j := 4) hlt (by decide)
      simp at c0 c1 c2 c3 c4
      obtain ⟨hbl, hfz⟩ := hR.free (by omega)
      have HR := Lib.hid hR
      clear hR
      go_wp2
      go_roundw
      case rel =>
        refine ⟨k + 1, by omega, by go_num, by congr 1; omega, ?_, ((((hK.setCell (by omega) _).setCell (by omega) _).setCell (by omega) _).setCell (by omega) _).setCell (by omega) _⟩
        refine Own.congr (((((HR.out.set0 (i := k) (by decide)).set (i := k) (j := 1) (by decide)).set (i := k) (j := 2) (by decide)).set (i := k) (j := 3) (by decide)).set (i := k) (j := 4) (by decide)) (fun i j hi hj => ?_)
        by_cases h1 : i = k
        · subst h1
          have : j = 0 ∨ j = 1 ∨ j = 2 ∨ j = 3 ∨ j = 4 := by omega
          rcases this with rfl | rfl | rfl | rfl | rfl <;> simp <;> omega
        · simp [h1, show (i < k + 1) = (i < k) from by rw [eq_iff_iff]; omega]
      case measure => simp [intOf]; omega
    · obtain rfl : k = n := by omega
      have HR := Lib.hid hR
      clear hR
      go_wp2
      go_ret
      exact ⟨rfl, HR.out.congr (fun i j hi _ => by simp [hi]), hK⟩
end Go.Proofs.Ytfflbkmncnaffaa
