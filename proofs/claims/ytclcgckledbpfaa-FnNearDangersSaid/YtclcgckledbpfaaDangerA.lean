/- Lists of Dangers: how they read in memory; the law's helpers on them: size, copy, equality, marks. -/
import Derived.Test.YtclcgckledbpfaaMem
import Derived.Test.YtclcgckledbpfaaBase
namespace Go.Proofs.Ytclcgckledbpfaa
open Go.RowKit
/-- a Danger's numbers -/
structure DG where
  id : Int
  kind : Int
  x : Int
  y : Int
  least : Int
  quality : Int
  seen : Int
def DG.cell (s : DG) : Nat → Value
  | 0 => .int .i64 s.id
  | 1 => .int .i64 s.kind
  | 2 => .int .i64 s.x
  | 3 => .int .i64 s.y
  | 4 => .int .i64 s.least
  | 5 => .int .i64 s.quality
  | _ => .int .i64 s.seen
def DG.arr (s : DG) : Array Value := #[.int .i64 s.id, .int .i64 s.kind, .int .i64 s.x, .int .i64 s.y, .int .i64 s.least, .int .i64 s.quality, .int .i64 s.seen]
def SlDG (w : World) (A : Option Addr) (n : Nat) (f : Nat → DG) : Prop := Sl w 7 A n (fun i j => (f i).cell j)
theorem SlDG.at {w wr : World} {A : Option Addr} {n k : Nat} {f : Nat → DG} (hS : SlDG w A n f) (hb : Below w.heap.size w wr) (hk : k < n) : ∃ b off, A = some ⟨b, off, none⟩ ∧ b < w.heap.size ∧ b < wr.heap.size ∧
    wr.cell? ⟨b, off + k * 7, none⟩ = some (.int .i64 (f k).id) ∧ wr.cell? ⟨b, off + k * 7 + 1, none⟩ = some (.int .i64 (f k).kind) ∧ wr.cell? ⟨b, off + k * 7 + 2, none⟩ = some (.int .i64 (f k).x) ∧ wr.cell? ⟨b, off + k * 7 + 3, none⟩ = some (.int .i64 (f k).y) ∧ wr.cell? ⟨b, off + k * 7 + 4, none⟩ = some (.int .i64 (f k).least) ∧ wr.cell? ⟨b, off + k * 7 + 5, none⟩ = some (.int .i64 (f k).quality) ∧ wr.cell? ⟨b, off + k * 7 + 6, none⟩ = some (.int .i64 (f k).seen) ∧ Hid (∀ m j, m < n → j < 7 → wr.cell? ⟨b, off + m * 7 + j, none⟩ = some ((f m).cell j)) := by
  obtain ⟨b, off, hA, hbl, hc⟩ := hS (by omega)
  have hz := hb.size
  exact ⟨b, off, hA, hbl, by omega, (hb.cell (p := ⟨b, _, none⟩) hbl).trans (hc k 0 hk (by decide)), (hb.cell (p := ⟨b, _, none⟩) hbl).trans (hc k 1 hk (by decide)), (hb.cell (p := ⟨b, _, none⟩) hbl).trans (hc k 2 hk (by decide)), (hb.cell (p := ⟨b, _, none⟩) hbl).trans (hc k 3 hk (by decide)), (hb.cell (p := ⟨b, _, none⟩) hbl).trans (hc k 4 hk (by decide)), (hb.cell (p := ⟨b, _, none⟩) hbl).trans (hc k 5 hk (by decide)), (hb.cell (p := ⟨b, _, none⟩) hbl).trans (hc k 6 hk (by decide)), fun m j hm hj => (hb.cell (p := ⟨b, _, none⟩) hbl).trans (hc m j hm hj)⟩
theorem BlkDG.cells {w : World} {g : Nat} {t : TypeId} {s : DG} (h : Blk w g t s.arr) : g < w.heap.size ∧ w.cell? ⟨g, 0, none⟩ = some (.int .i64 s.id) ∧ w.cell? ⟨g, 1, none⟩ = some (.int .i64 s.kind) ∧ w.cell? ⟨g, 2, none⟩ = some (.int .i64 s.x) ∧ w.cell? ⟨g, 3, none⟩ = some (.int .i64 s.y) ∧ w.cell? ⟨g, 4, none⟩ = some (.int .i64 s.least) ∧ w.cell? ⟨g, 5, none⟩ = some (.int .i64 s.quality) ∧ w.cell? ⟨g, 6, none⟩ = some (.int .i64 s.seen) ∧ (∀ i, w.frozen? ⟨g, i, none⟩ = false) :=
  ⟨h.lt, h.cell 0, h.cell 1, h.cell 2, h.cell 3, h.cell 4, h.cell 5, h.cell 6, h.frozen⟩
theorem szDangerS_yes (A : Option Addr) (n c : Nat) (w : World) (hn : n ≤ 1048576) : Calls Try.prog 18 #[.slice A n c, .int .i64 1048576] w fun e w' => e = .returned (.int .i64 (1048576 - n)) ∧ w = w' := by
  go_enter Try.func18, Try.ntmps18
  go_wp2
  go_ret
  exact ⟨rfl, rfl⟩
theorem szDangerS_no (A : Option Addr) (n c : Nat) (w : World) (hn : 1048576 < n) (hm : n ≤ 9223372036854775807) : Calls Try.prog 18 #[.slice A n c, .int .i64 1048576] w fun e w' => e = .returned (.int .i64 (-1)) ∧ w = w' := by
  go_enter Try.func18, Try.ntmps18
  go_wp2
  go_ret
  exact ⟨rfl, rfl⟩
theorem toDanger_any (s : DG) (w : World) : Calls Try.prog 14 #[.agg #[.int .i64 s.id, .int .i64 s.kind, .int .i64 s.x, .int .i64 s.y, .int .i64 s.least, .int .i64 s.quality, .int .i64 s.seen]] w fun e w' => e = .returned (.agg #[.int .i64 s.id, .int .i64 s.kind, .int .i64 s.x, .int .i64 s.y, .int .i64 s.least, .int .i64 s.quality, .int .i64 s.seen]) ∧ Below w.heap.size w w' := by
  go_enter Try.func14, Try.ntmps14
  go_wp2_with (go_at_call 42; refine (toSpot_any _ _ _).mono ?_; rintro e w' ⟨rfl, rfl⟩)
  go_returns
  exact ⟨rfl, by repeat' (first | (with_reducible exact Below.refl _ _) | (with_reducible assumption) | (with_reducible refine Below.alloc ?_ ?_ _) | (with_reducible refine Below.drew ?_) | (with_reducible refine Below.setCell ?_ ?_ _) | (with_reducible refine Below.stepB (by assumption) ?_ ?_) | go_size)⟩
theorem info_Danger : (Try.prog.info? 29).map (fun i => (i.zero, i.size, i.bytes)) = some (some (.agg #[.int .i64 0, .int .i64 0, .int .i64 0, .int .i64 0, .int .i64 0, .int .i64 0, .int .i64 0]), 7, 56) := by kernel_rfl
/-- the first k elements are written -/
def FilledDG (cs : Array Value) (f : Nat → DG) (n k : Nat) : Prop := cs.size = n * 7 ∧ ∀ i j, i < k → j < 7 → cs[i * 7 + j]? = some ((f i).cell j)
theorem FilledDG.step {cs : Array Value} {f : Nat → DG} {n k : Nat} (h : FilledDG cs f n k) (hk : k < n) :
    FilledDG ((((((((cs).setIfInBounds (k * 7) (.int .i64 (f k).id)).setIfInBounds (k * 7 + 1) (.int .i64 (f k).kind)).setIfInBounds (k * 7 + 2) (.int .i64 (f k).x)).setIfInBounds (k * 7 + 3) (.int .i64 (f k).y)).setIfInBounds (k * 7 + 4) (.int .i64 (f k).least)).setIfInBounds (k * 7 + 5) (.int .i64 (f k).quality)).setIfInBounds (k * 7 + 6) (.int .i64 (f k).seen)) f n (k + 1) := by
  obtain ⟨hs, hc⟩ := h
  refine ⟨by simpa using hs, fun i j hi hj => ?_⟩
  simp only [Array.getElem?_setIfInBounds, Array.size_setIfInBounds]
  rcases Nat.lt_or_ge i k with h1 | h1
  · rw [if_neg (by omega), if_neg (by omega), if_neg (by omega), if_neg (by omega), if_neg (by omega), if_neg (by omega), if_neg (by omega)]
    exact hc i j h1 hj
  · obtain rfl : i = k := by omega
    have : j = 0 ∨ j = 1 ∨ j = 2 ∨ j = 3 ∨ j = 4 ∨ j = 5 ∨ j = 6 := by omega
    rcases this with rfl | rfl | rfl | rfl | rfl | rfl | rfl <;> simp [DG.cell, hs] <;> omega
theorem toDangerS_any (A : Option Addr) (n c : Nat) (f : Nat → DG) (w : World) (hS : SlDG w A n f) (hn : n ≤ 1048576) : Calls Try.prog 20 #[.slice A n c] w
    fun e w' => e = .returned (.slice (some ⟨w.heap.size, 0, none⟩) n n) ∧ Own w' w.heap.size 7 (some ⟨w.heap.size, 0, none⟩) n (fun i j => (f i).cell j) ∧ Below w.heap.size w w' := by
  obtain ⟨i0, hi, hz0, hz1, hz2⟩ := info_parts info_Danger
  have hmk := run_make_rowN (P := Try.prog) 37 29 i0 _ Try.underlying37 hi hz0 .i64 .i64 n n (Nat.le_refl _) (by rw [hz2]; omega) (by omega)
  rw [hz1] at hmk
  clear hi hz0 hz1 hz2
  go_enter Try.func20, Try.ntmps20
  go_wp2
  go_loopw [4] (fun v4 wr => ∃ (k : Nat) (cs : Array Value), k ≤ n ∧ v4 = .int .i64 k ∧ Blk wr w.heap.size 29 cs ∧ FilledDG cs f n k ∧ Below w.heap.size w wr) (fun v4 _ => n - (intOf v4).toNat)
  case atStart => exact ⟨0, _, Nat.zero_le _, rfl, Blk.new _ _ _, ⟨by simp [madeCells], fun i j hi => absurd hi (by omega)⟩, by repeat' (first | (with_reducible exact Below.refl _ _) | (with_reducible assumption) | (with_reducible refine Below.alloc ?_ ?_ _) | (with_reducible refine Below.drew ?_) | (with_reducible refine Below.setCell ?_ ?_ _) | (with_reducible refine Below.stepB (by assumption) ?_ ?_) | go_size)⟩
  case round =>
    obtain ⟨k, cs, hk, rfl, hB, hF, hbr⟩ := hrel
    have hzr := hbr.size
    clear hmk
    by_cases hlt : k < n
    · obtain ⟨b, off, rfl, hbl, hbl2, c0, c1, c2, c3, c4, c5, c6, hc⟩ := hS.at hbr hlt
      clear hS hc
      have hsz := hF.1
      have hbg := hB.lt
      go_wp2_with fail
      refine (toDanger_any (f k) _).mono ?_
      rintro e w1 ⟨rfl, hbw1⟩
      have hB1 := hB.below hbw1 hbg
      obtain ⟨y0, d0⟩ : ∃ v, w1.cell? ⟨w.heap.size, k * 7, none⟩ = some v := ⟨_, (hB1.cell _).trans (Array.getElem?_eq_getElem (by omega))⟩
      obtain ⟨y1, d1⟩ : ∃ v, w1.cell? ⟨w.heap.size, k * 7 + 1, none⟩ = some v := ⟨_, (hB1.cell _).trans (Array.getElem?_eq_getElem (by omega))⟩
      obtain ⟨y2, d2⟩ : ∃ v, w1.cell? ⟨w.heap.size, k * 7 + 2, none⟩ = some v := ⟨_, (hB1.cell _).trans (Array.getElem?_eq_getElem (by omega))⟩
      obtain ⟨y3, d3⟩ : ∃ v, w1.cell? ⟨w.heap.size, k * 7 + 3, none⟩ = some v := ⟨_, (hB1.cell _).trans (Array.getElem?_eq_getElem (by omega))⟩
      obtain ⟨y4, d4⟩ : ∃ v, w1.cell? ⟨w.heap.size, k * 7 + 4, none⟩ = some v := ⟨_, (hB1.cell _).trans (Array.getElem?_eq_getElem (by omega))⟩
      obtain ⟨y5, d5⟩ : ∃ v, w1.cell? ⟨w.heap.size, k * 7 + 5, none⟩ = some v := ⟨_, (hB1.cell _).trans (Array.getElem?_eq_getElem (by omega))⟩
      obtain ⟨y6, d6⟩ : ∃ v, w1.cell? ⟨w.heap.size, k * 7 + 6, none⟩ = some v := ⟨_, (hB1.cell _).trans (Array.getElem?_eq_getElem (by omega))⟩
      have hfz := fun i => hB1.frozen i
      clear c0 c1 c2 c3 c4 c5 c6
      go_wp2
      go_roundw
      case rel => exact ⟨k + 1, _, by omega, by go_num, ((((((hB1.set_ (k * 7) (.int .i64 (f k).id)).set_ (k * 7 + 1) (.int .i64 (f k).kind)).set_ (k * 7 + 2) (.int .i64 (f k).x)).set_ (k * 7 + 3) (.int .i64 (f k).y)).set_ (k * 7 + 4) (.int .i64 (f k).least)).set_ (k * 7 + 5) (.int .i64 (f k).quality)).set_ (k * 7 + 6) (.int .i64 (f k).seen), hF.step hlt, by repeat' (first | (with_reducible exact Below.refl _ _) | (with_reducible assumption) | (with_reducible refine Below.alloc ?_ ?_ _) | (with_reducible refine Below.drew ?_) | (with_reducible refine Below.setCell ?_ ?_ _) | (with_reducible refine Below.stepB (by assumption) ?_ ?_) | go_size)⟩
      case measure => simp [intOf]; omega
    · obtain rfl : k = n := by omega
      clear hS
      go_wp2
      go_ret
      exact ⟨rfl, fun _ => ⟨_, _, cs, rfl, Nat.le_refl _, hB, by have := hF.1; omega, hF.2⟩, hbr⟩
theorem toDangerS_ex (A : Option Addr) (n c : Nat) (f : Nat → DG) (w : World) (hS : SlDG w A n f) (hn : n ≤ 1048576) : Calls Try.prog 20 #[.slice A n c] w
    fun e w' => ∃ b, e = .returned (.slice (some ⟨b, 0, none⟩) n n) ∧ Own w' w.heap.size 7 (some ⟨b, 0, none⟩) n (fun i j => (f i).cell j) ∧ Below w.heap.size w w' :=
  (toDangerS_any A n c f w hS hn).mono fun _ _ ⟨h1, h2, h3⟩ => ⟨_, h1, h2, h3⟩
theorem eqDanger_same (s : DG) (w : World) : Calls Try.prog 61 #[.agg #[.int .i64 s.id, .int .i64 s.kind, .int .i64 s.x, .int .i64 s.y, .int .i64 s.least, .int .i64 s.quality, .int .i64 s.seen], .agg #[.int .i64 s.id, .int .i64 s.kind, .int .i64 s.x, .int .i64 s.y, .int .i64 s.least, .int .i64 s.quality, .int .i64 s.seen]] w fun e w' => e = .returned (.bool true) ∧ Below w.heap.size w w' := by
  go_enter Try.func61, Try.ntmps61
  go_wp2_with (go_at_call 83; refine (eqSpot_same _ _ _).mono ?_; rintro e w1 ⟨rfl, hbw1⟩; obtain ⟨hzw1, hcw1, hfw1⟩ := bfacts hbw1; (try simp at hzw1 hcw1 hfw1); (try (have : w.heap.size < w1.heap.size := by omega)); (try (have : w.heap.size + 1 < w1.heap.size := by omega)); (try (have : w.heap.size + 1 + 1 < w1.heap.size := by omega)); (try (have : w.heap.size + 1 + 1 + 1 < w1.heap.size := by omega)))
  go_ret
  exact ⟨rfl, by repeat' (first | (with_reducible exact Below.refl _ _) | (with_reducible assumption) | (with_reducible refine Below.alloc ?_ ?_ _) | (with_reducible refine Below.drew ?_) | (with_reducible refine Below.setCell ?_ ?_ _) | (with_reducible refine Below.stepB (by assumption) ?_ ?_) | go_size)⟩
theorem eqDangerS_same (A A' : Option Addr) (n c c' : Nat) (f : Nat → DG) (w : World) (hS : SlDG w A n f) (hS' : SlDG w A' n f) (hn : n ≤ 1048576) : Calls Try.prog 22 #[.slice A n c, .slice A' n c'] w
    fun e w' => e = .returned (.bool true) ∧ Below w.heap.size w w' := by
  go_enter Try.func22, Try.ntmps22
  go_wp2
  go_loopw [5] (fun v4 wr => ∃ (k : Nat), k ≤ n ∧ v4 = .int .i64 k ∧ Below w.heap.size w wr) (fun v4 _ => n - (intOf v4).toNat)
  case atStart => exact ⟨0, Nat.zero_le _, rfl, Below.refl _ _⟩
  case round =>
    obtain ⟨k, hk, rfl, hbr⟩ := hrel
    have hzr := hbr.size
    by_cases hlt : k < n
    · obtain ⟨b, off, rfl, hbl, hbl2, c0, c1, c2, c3, c4, c5, c6, hc⟩ := hS.at hbr hlt
      obtain ⟨b', off', rfl, hbl', hbl2', e0, e1, e2, e3, e4, e5, e6, hc'⟩ := hS'.at hbr hlt
      clear hS hc hS' hc'
      go_wp2
      refine wp_region_later (by kernel_rfl) (by kernel_rfl) (fun hlx => ?_)
      repeat (go_big_quiet_step ((go_at_call 61; exact Later.call (eqDanger_same (f k) _))))
      refine wpQuiet_nil ?_
      clear hlx
      intro w1 hbw1
      obtain ⟨hzw1, hcw1, hfw1⟩ := bfacts hbw1; (try simp at hzw1 hcw1 hfw1); (try (have : w.heap.size < w1.heap.size := by omega)); (try (have : w.heap.size + 1 < w1.heap.size := by omega)); (try (have : w.heap.size + 1 + 1 < w1.heap.size := by omega)); (try (have : w.heap.size + 1 + 1 + 1 < w1.heap.size := by omega))
      go_wp2
      go_roundw
      case rel => exact ⟨k + 1, by omega, by go_num, by repeat' (first | (with_reducible exact Below.refl _ _) | (with_reducible assumption) | (with_reducible refine Below.alloc ?_ ?_ _) | (with_reducible refine Below.drew ?_) | (with_reducible refine Below.setCell ?_ ?_ _) | (with_reducible refine Below.stepB (by assumption) ?_ ?_) | go_size)⟩
      case measure => simp [intOf]; omega
    · obtain rfl : k = n := by omega
      clear hS hS'
      go_wp2
      go_ret
      exact ⟨rfl, hbr⟩
theorem markDangerS_any (A : Option Addr) (n c lo : Nat) (g : Nat → Nat → Value) (w : World) (hO : Own w lo 7 A n g) (hn : n ≤ 1048576) (q : Int) (q0 : 0 ≤ q) (q1 : q ≤ 4000000000000) : Calls Try.prog 28 #[.slice A n c, .int .i64 q] w
    fun e w' => e = .returned (.int .i64 (q + n * 7)) ∧ Own w' lo 7 A n (fun i j => .int .i64 (q + i * 7 + j)) ∧ Kept w w' A n := by
  go_enter Try.func28, Try.ntmps28
  go_wp2
  go_loopw [1, 5] (fun v1 v5 wr => ∃ (k : Nat), k ≤ n ∧ v5 = .int .i64 k ∧ v1 = .int .i64 (q + k * 7) ∧ Own wr lo 7 A n (fun i j => if i < k then .int .i64 (q + i * 7 + j) else g i j) ∧ Kept w wr A n) (fun _ v5 _ => n - (intOf v5).toNat)
  case atStart => exact ⟨0, Nat.zero_le _, rfl, by simp, hO.congr (fun i j _ _ => by simp), Kept.refl _ _ _⟩
  case round =>
    obtain ⟨k, hk, rfl, rfl, hR, hK⟩ := hrel
    clear hO
    by_cases hlt : k < n
    · obtain ⟨b, rfl⟩ := hR.form (by omega)
      have c0 := hR.at_ (i := k) (j := 0) hlt (by decide)
      have c1 := hR.at_ (i := k) (j := 1) hlt (by decide)
      have c2 := hR.at_ (i := k) (j := 2) hlt (by decide)
      have c3 := hR.at_ (i := k) (j := 3) hlt (by decide)
      have c4 := hR.at_ (i := k) (j := 4) hlt (by decide)
      have c5 := hR.at_ (i := k) (j := 5) hlt (by decide)
      have c6 := hR.at_ (i := k) (j := 6) hlt (by decide)
      simp at c0 c1 c2 c3 c4 c5 c6
      obtain ⟨hbl, hfz⟩ := hR.free (by omega)
      have HR := Lib.hid hR
      clear hR
      go_wp2
      go_roundw
      case rel =>
        refine ⟨k + 1, by omega, by go_num, by congr 1; omega, ?_, ((((((hK.setCell (by omega) _).setCell (by omega) _).setCell (by omega) _).setCell (by omega) _).setCell (by omega) _).setCell (by omega) _).setCell (by omega) _⟩
        refine Own.congr (((((((HR.out.set0 (i := k) (by decide)).set (i := k) (j := 1) (by decide)).set (i := k) (j := 2) (by decide)).set (i := k) (j := 3) (by decide)).set (i := k) (j := 4) (by decide)).set (i := k) (j := 5) (by decide)).set (i := k) (j := 6) (by decide)) (fun i j hi hj => ?_)
        by_cases h1 : i = k
        · subst h1
          have : j = 0 ∨ j = 1 ∨ j = 2 ∨ j = 3 ∨ j = 4 ∨ j = 5 ∨ j = 6 := by omega
          rcases this with rfl | rfl | rfl | rfl | rfl | rfl | rfl <;> simp <;> omega
        · simp [h1, show (i < k + 1) = (i < k) from by rw [eq_iff_iff]; omega]
      case measure => simp [intOf]; omega
    · obtain rfl : k = n := by omega
      have HR := Lib.hid hR
      clear hR
      go_wp2
      go_ret
      exact ⟨rfl, HR.out.congr (fun i j hi _ => by simp [hi]), hK⟩
theorem heldDangerS_any (A : Option Addr) (n c : Nat) (w : World) (q : Int) (hO : Sl w 7 A n (fun i j => .int .i64 (q + i * 7 + j))) (hn : n ≤ 1048576) (q0 : 0 ≤ q) (q1 : q ≤ 4000000000000) : Calls Try.prog 35 #[.slice A n c, .int .i64 q] w
    fun e w' => e = .returned (.int .i64 (q + n * 7)) ∧ Below w.heap.size w w' := by
  go_enter Try.func35, Try.ntmps35
  go_wp2
  go_loopw [1, 5] (fun v1 v5 wr => ∃ (k : Nat), k ≤ n ∧ v5 = .int .i64 k ∧ v1 = .int .i64 (q + k * 7) ∧ Below w.heap.size w wr) (fun _ v5 _ => n - (intOf v5).toNat)
  case atStart => exact ⟨0, Nat.zero_le _, rfl, by simp, Below.refl _ _⟩
  case round =>
    obtain ⟨k, hk, rfl, rfl, hbr⟩ := hrel
    have hzr := hbr.size
    by_cases hlt : k < n
    · obtain ⟨b, off, rfl, hbl, hc⟩ := hO (by omega)
      have c0 := (hbr.cell (p := ⟨b, _, none⟩) hbl).trans (hc k 0 hlt (by decide))
      have c1 := (hbr.cell (p := ⟨b, _, none⟩) hbl).trans (hc k 1 hlt (by decide))
      have c2 := (hbr.cell (p := ⟨b, _, none⟩) hbl).trans (hc k 2 hlt (by decide))
      have c3 := (hbr.cell (p := ⟨b, _, none⟩) hbl).trans (hc k 3 hlt (by decide))
      have c4 := (hbr.cell (p := ⟨b, _, none⟩) hbl).trans (hc k 4 hlt (by decide))
      have c5 := (hbr.cell (p := ⟨b, _, none⟩) hbl).trans (hc k 5 hlt (by decide))
      have c6 := (hbr.cell (p := ⟨b, _, none⟩) hbl).trans (hc k 6 hlt (by decide))
      simp at c0 c1 c2 c3 c4 c5 c6
      clear hO hc
      go_wp2
      go_roundw
      case rel => exact ⟨k + 1, by omega, by go_num, by congr 1; omega, by repeat' (first | (with_reducible exact Below.refl _ _) | (with_reducible assumption) | (with_reducible refine Below.alloc ?_ ?_ _) | (with_reducible refine Below.drew ?_) | (with_reducible refine Below.setCell ?_ ?_ _) | (with_reducible refine Below.stepB (by assumption) ?_ ?_) | go_size)⟩
      case measure => simp [intOf]; omega
    · obtain rfl : k = n := by omega
      clear hO
      go_wp2
      go_ret
      exact ⟨rfl, hbr⟩
end Go.Proofs.Ytclcgckledbpfaa
