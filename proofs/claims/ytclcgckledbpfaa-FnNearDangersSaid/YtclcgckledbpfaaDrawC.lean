/- Contracts: the drawn arguments of the law on near dangers; the square between two spots. -/
import Derived.Test.YtclcgckledbpfaaDrawB
import Derived.Test.YtclcgckledbpfaaBase
namespace Go.Proofs.Ytclcgckledbpfaa
open Go.RowKit
theorem SquareBetween_any (a b c d : Int) (w : World) (h : spotB a b = true) (k : spotB c d = true) : Calls Try.prog 47 #[.agg #[.int .i64 a, .int .i64 b], .agg #[.int .i64 c, .int .i64 d]] w
    fun e w' => e = .returned (.tuple #[.int .i64 (sqD a b c d), .bool true]) ∧ Below w.heap.size w w' := by
  have h1 := fun W => IsSpot_any a b W
  have h2 := fun W => IsSpot_any c d W
  rw [h] at h1
  rw [k] at h2
  have H1 := Lib.hid h1
  have H2 := Lib.hid h2
  have H3 := Lib.hid (fun W => squareOf_any a b c d W h k)
  clear h1 h2
  go_enter Try.func47, Try.ntmps47
  go_wp2_with fail
  refine (H1.out _).mono ?_
  rintro e w1 ⟨rfl, hbw1⟩
  obtain ⟨hzw1, hcw1, hfw1⟩ := bfacts hbw1; (try simp at hzw1 hcw1 hfw1); (try (have : w.heap.size < w1.heap.size := by omega)); (try (have : w.heap.size + 1 < w1.heap.size := by omega)); (try (have : w.heap.size + 1 + 1 < w1.heap.size := by omega)); (try (have : w.heap.size + 1 + 1 + 1 < w1.heap.size := by omega))
  go_wp2_with fail
  refine (H2.out _).mono ?_
  rintro e w2 ⟨rfl, hbw2⟩
  obtain ⟨hzw2, hcw2, hfw2⟩ := bfacts hbw2; (try simp at hzw2 hcw2 hfw2); (try (have : w.heap.size < w2.heap.size := by omega)); (try (have : w.heap.size + 1 < w2.heap.size := by omega)); (try (have : w.heap.size + 1 + 1 < w2.heap.size := by omega)); (try (have : w.heap.size + 1 + 1 + 1 < w2.heap.size := by omega))
  go_wp2_with fail
  refine (H3.out _).mono ?_
  rintro e w3 ⟨rfl, hbw3⟩
  obtain ⟨hzw3, hcw3, hfw3⟩ := bfacts hbw3; (try simp at hzw3 hcw3 hfw3); (try (have : w.heap.size < w3.heap.size := by omega)); (try (have : w.heap.size + 1 < w3.heap.size := by omega)); (try (have : w.heap.size + 1 + 1 < w3.heap.size := by omega)); (try (have : w.heap.size + 1 + 1 + 1 < w3.heap.size := by omega))
  go_wp2
  go_ret2
  exact ⟨rfl, by repeat' (first | (with_reducible exact Below.refl _ _) | (with_reducible assumption) | (with_reducible refine Below.alloc ?_ ?_ _) | (with_reducible refine Below.drew ?_) | (with_reducible refine Below.setCell ?_ ?_ _) | (with_reducible refine Below.stepB (by assumption) ?_ ?_) | go_size)⟩
theorem Own.farC {w : World} {lo k n : Nat} {A : Option Addr} {g : Nat → Nat → Value} (h : Own w lo k A n g) {p : Addr} (hp : p.block < lo) (u : Value) : Own (w.setCell p u) lo k A n g := fun hn => by
  obtain ⟨b, t, cs, hA, hl, hB, hs, hc⟩ := h hn
  exact ⟨b, t, cs, hA, hl, hB.far (by omega) u, hs, hc⟩
set_option maxHeartbeats 2000000 in
theorem DrawWithin_any (n c : Nat) (A : Option Addr) (B : Nat → Int) (w : World) (hR : ∀ i, 0 ≤ B i ∧ B i ≤ 255) (hS : Sl w 1 A n (fun i _ => .int .u8 (B i))) (hn : n ≤ 65536) :
    Calls Try.prog 45 #[.slice A n c] w fun e w' => ∃ (m b' c' : Nat) (f : Nat → DG) (x y z : Int), e = .returned (.tuple #[.slice (some ⟨b', 0, none⟩) m c', .agg #[.int .i64 x, .int .i64 y], .int .i64 z]) ∧ m ≤ 13 ∧ Own w' w.heap.size 7 (some ⟨b', 0, none⟩) m (fun i j => (f i).cell j) ∧ Below w.heap.size w w' := by
  have HR := Lib.hid hR
  have HS := Lib.hid hS
  clear hR hS
  go_enter Try.func45, Try.ntmps45
  go_wp2_with fail
  refine (dangers_any (w.heap.size + 1) A n c 0 _ (curS_new (blk_newC (w.alloc (.cells #[.int .i64 0, .int .i64 0] 27)) (by simp)) HR.out HS.out (by repeat' (first | (with_reducible exact Below.refl _ _) | (with_reducible assumption) | (with_reducible refine Below.alloc ?_ ?_ _) | (with_reducible refine Below.drew ?_) | (with_reducible refine Below.setCell ?_ ?_ _) | (with_reducible refine Below.stepB (by assumption) ?_ ?_) | go_size)) (by omega)) (by decide) (by omega)).mono ?_
  rintro e w1 ⟨m, b1, c1, f, rfl, hm, hcap, hO, hD⟩
  have HT1 := Lib.hid (Blk.keptC ((blk_newC (g := w.heap.size) (t := 27) (cs := #[.int .i64 0, .int .i64 0]) w rfl).alloc _) hD.2 (by omega))
  have HB1 := Lib.hid ((show Below w.heap.size w _ from by repeat' (first | (with_reducible exact Below.refl _ _) | (with_reducible assumption) | (with_reducible refine Below.alloc ?_ ?_ _) | (with_reducible refine Below.drew ?_) | (with_reducible refine Below.setCell ?_ ?_ _) | (with_reducible refine Below.stepB (by assumption) ?_ ?_) | go_size)).trans (hD.2.lowB (B := w.heap.size) (by omega) (by simp; omega)))
  have HO1 := Lib.hid (hO.more (lo' := w.heap.size + 2) (by simp))
  have HC1 := Lib.hid hD.1
  have hz1 := hD.2.size
  (try simp at hz1)
  clear hO hD
  go_wp2_with fail
  refine (spot_any (w.heap.size + 1) A n c 300 w1 HC1.out (by decide) (by omega)).mono ?_
  rintro e w2 ⟨x, y, rfl, hD⟩
  have HT2 := Lib.hid (Blk.keptC HT1.out hD.2 (by omega))
  have HO2 := Lib.hid (Own.keptC HO1.out hD.2 (by omega))
  have HB2 := Lib.hid (HB1.out.trans (hD.2.lowB (B := w.heap.size) (by omega) (by omega)))
  have HC2 := Lib.hid hD.1
  have hz2 := hD.2.size
  clear hD
  go_wp2_with fail
  refine (far17_any (w.heap.size + 1) A n c 308 w2 HC2.out (by decide) (by omega)).mono ?_
  rintro e w3 ⟨z, rfl, hD⟩
  have HT3 := Lib.hid (Blk.keptC HT2.out hD.2 (by omega))
  have HO3 := Lib.hid (Own.keptC HO2.out hD.2 (by omega))
  have HB3 := Lib.hid (HB2.out.trans (hD.2.lowB (B := w.heap.size) (by omega) (by omega)))
  clear hD
  have e0 : ∀ v, (w3.setCell ⟨w.heap.size, 0, none⟩ v).cell? ⟨w.heap.size, 0, none⟩ = some v := fun v => (HT3.out.set_ 0 v).cell 0
  have e1 : ∀ v u, ((w3.setCell ⟨w.heap.size, 0, none⟩ v).setCell ⟨w.heap.size, 1, none⟩ u).cell? ⟨w.heap.size, 1, none⟩ = some u := fun v u => ((HT3.out.set_ 0 v).set_ 1 u).cell 1
  have t0 : w3.cell? ⟨w.heap.size, 0, none⟩ = some (.int .i64 0) := HT3.out.cell 0
  have t1 : w3.cell? ⟨w.heap.size, 1, none⟩ = some (.int .i64 0) := HT3.out.cell 1
  have tf := HT3.out.frozen
  have tl := HT3.out.lt
  go_wp2
  (try simp only [Exit.inBlock, Exit.then])
  refine bodyPost_ret (by simp [results, Try.results45, go_sem, e0, e1]; try rfl) rfl ?_
  have hb := HB3.out
  refine ⟨m, b1, c1, f, x, y, z, rfl, hm, ((HO3.out.farC (by show w.heap.size < _; omega) _).farC (by show w.heap.size < _; omega) _).more (by omega), ?_⟩
  repeat' (first | (with_reducible exact Below.refl _ _) | (with_reducible assumption) | (with_reducible refine Below.alloc ?_ ?_ _) | (with_reducible refine Below.drew ?_) | (with_reducible refine Below.setCell ?_ ?_ _) | (with_reducible refine Below.stepB (by assumption) ?_ ?_) | go_size)
theorem DrawClosePairs_any (n c : Nat) (A : Option Addr) (B : Nat → Int) (w : World) (hR : ∀ i, 0 ≤ B i ∧ B i ≤ 255) (hS : Sl w 1 A n (fun i _ => .int .u8 (B i))) (hn : n ≤ 65536) :
    Calls Try.prog 49 #[.slice A n c] w fun e w' => ∃ (m b' c' : Nat) (f : Nat → DG) (x : Int), e = .returned (.tuple #[.slice (some ⟨b', 0, none⟩) m c', .int .i64 x]) ∧ m ≤ 13 ∧ m ≤ c' ∧ Own w' w.heap.size 7 (some ⟨b', 0, none⟩) m (fun i j => (f i).cell j) ∧ Below w.heap.size w w' := by
  have HR := Lib.hid hR
  have HS := Lib.hid hS
  clear hR hS
  go_enter Try.func49, Try.ntmps49
  go_wp2_with fail
  refine (dangers_any w.heap.size A n c 0 _ (curS_new (blk_newC w rfl) HR.out HS.out (by repeat' (first | (with_reducible exact Below.refl _ _) | (with_reducible assumption) | (with_reducible refine Below.alloc ?_ ?_ _) | (with_reducible refine Below.drew ?_) | (with_reducible refine Below.setCell ?_ ?_ _) | (with_reducible refine Below.stepB (by assumption) ?_ ?_) | go_size)) (Nat.le_refl _)) (by decide) (by omega)).mono ?_
  rintro e w1 ⟨m, b1, c1, f, rfl, hm, hcap, hO, hD⟩
  have HB1 := Lib.hid ((show Below w.heap.size w _ from by repeat' (first | (with_reducible exact Below.refl _ _) | (with_reducible assumption) | (with_reducible refine Below.alloc ?_ ?_ _) | (with_reducible refine Below.drew ?_) | (with_reducible refine Below.setCell ?_ ?_ _) | (with_reducible refine Below.stepB (by assumption) ?_ ?_) | go_size)).trans (hD.2.lowB (Nat.le_refl _) (by simp)))
  have HO1 := Lib.hid (hO.more (lo' := w.heap.size + 1) (by simp))
  have HC1 := Lib.hid hD.1
  have hz1 := hD.2.size
  (try simp at hz1)
  clear hO hD
  go_wp2_with fail
  refine (far17_any w.heap.size A n c 300 w1 HC1.out (by decide) (by omega)).mono ?_
  rintro e w2 ⟨x, rfl, hD⟩
  have HO2 := Lib.hid (Own.keptC HO1.out hD.2 (by omega))
  have HB2 := Lib.hid (HB1.out.trans (hD.2.lowB (Nat.le_refl _) (by omega)))
  have HC2 := Lib.hid hD.1
  have hz2 := hD.2.size
  clear hD
  go_wp2
  go_ret2
  exact ⟨m, b1, c1, f, x, rfl, hm, hcap, HO2.out.more (by omega), HB2.out⟩
theorem DrawOldDangers_any (n c : Nat) (A : Option Addr) (B : Nat → Int) (w : World) (hR : ∀ i, 0 ≤ B i ∧ B i ≤ 255) (hS : Sl w 1 A n (fun i _ => .int .u8 (B i))) (hn : n ≤ 65536) :
    Calls Try.prog 51 #[.slice A n c] w fun e w' => ∃ (m b' c' : Nat) (f : Nat → DG) (x y : Int), e = .returned (.tuple #[.slice (some ⟨b', 0, none⟩) m c', .int .i64 x, .int .i64 y]) ∧ m ≤ 13 ∧ Own w' w.heap.size 7 (some ⟨b', 0, none⟩) m (fun i j => (f i).cell j) ∧ Below w.heap.size w w' := by
  have HR := Lib.hid hR
  have HS := Lib.hid hS
  clear hR hS
  go_enter Try.func51, Try.ntmps51
  go_wp2_with fail
  refine (dangers_any w.heap.size A n c 0 _ (curS_new (blk_newC w rfl) HR.out HS.out (by repeat' (first | (with_reducible exact Below.refl _ _) | (with_reducible assumption) | (with_reducible refine Below.alloc ?_ ?_ _) | (with_reducible refine Below.drew ?_) | (with_reducible refine Below.setCell ?_ ?_ _) | (with_reducible refine Below.stepB (by assumption) ?_ ?_) | go_size)) (Nat.le_refl _)) (by decide) (by omega)).mono ?_
  rintro e w1 ⟨m, b1, c1, f, rfl, hm, hcap, hO, hD⟩
  have HB1 := Lib.hid ((show Below w.heap.size w _ from by repeat' (first | (with_reducible exact Below.refl _ _) | (with_reducible assumption) | (with_reducible refine Below.alloc ?_ ?_ _) | (with_reducible refine Below.drew ?_) | (with_reducible refine Below.setCell ?_ ?_ _) | (with_reducible refine Below.stepB (by assumption) ?_ ?_) | go_size)).trans (hD.2.lowB (Nat.le_refl _) (by simp)))
  have HO1 := Lib.hid (hO.more (lo' := w.heap.size + 1) (by simp))
  have HC1 := Lib.hid hD.1
  have hz1 := hD.2.size
  (try simp at hz1)
  clear hO hD
  go_wp2_with fail
  refine (pick_any w.heap.size A n c 300 24 _ (HC1.out.below (by repeat' (first | (with_reducible exact Below.refl _ _) | (with_reducible assumption) | (with_reducible refine Below.alloc ?_ ?_ _) | (with_reducible refine Below.drew ?_) | (with_reducible refine Below.setCell ?_ ?_ _) | (with_reducible refine Below.stepB (by assumption) ?_ ?_) | go_size))) (by decide) (by omega) (by decide)).mono ?_
  rintro e w2 ⟨x, rfl, x0, x1, hD⟩
  have hx : x < 24 := by omega
  have HL2 := Lib.hid (Blk.keptC (blk_newC (g := w1.heap.size) (t := 3) (cs := (([5000, 10000, 10000, 10000, 99, 10001] : List Int).map (Value.int .i64)).toArray) w1 rfl) hD.2 (by omega))
  have HO2 := Lib.hid (Own.keptC (HO1.out.allocd _) hD.2 (by omega))
  have HB2 := Lib.hid ((show Below w.heap.size w _ from Below.alloc HB1.out (by omega) _).trans (hD.2.lowB (Nat.le_refl _) (by simp; omega)))
  have HC2 := Lib.hid hD.1
  have hz2 := hD.2.size
  (try simp at hz2)
  clear hD
  go_wp2_with fail
  refine (among_any w.heap.size A n c (300 + 2) w1.heap.size (5 + x / 23).toNat 6 [5000, 10000, 10000, 10000, 99, 10001] w2 HC2.out (by decide) (by omega) HL2.out (by omega) (by omega) (by simp; omega) (by decide)).mono ?_
  rintro e w3 ⟨t, rfl, hD⟩
  have HO3 := Lib.hid (Own.keptC HO2.out hD.2 (by omega))
  have HB3 := Lib.hid (HB2.out.trans (hD.2.lowB (Nat.le_refl _) (by omega)))
  have HC3 := Lib.hid hD.1
  have hz3 := hD.2.size
  clear hD
  clear HL2 HO2 HB2 HC2 hx x0 x1
  go_wp2_with fail
  refine (pick_any w.heap.size A n c 304 24 _ (HC3.out.below (by repeat' (first | (with_reducible exact Below.refl _ _) | (with_reducible assumption) | (with_reducible refine Below.alloc ?_ ?_ _) | (with_reducible refine Below.drew ?_) | (with_reducible refine Below.setCell ?_ ?_ _) | (with_reducible refine Below.stepB (by assumption) ?_ ?_) | go_size))) (by decide) (by omega) (by decide)).mono ?_
  rintro e w4 ⟨x, rfl, x0, x1, hD⟩
  have hx : x < 24 := by omega
  have HL4 := Lib.hid (Blk.keptC (blk_newC (g := w3.heap.size) (t := 3) (cs := (([0, 4900, 5000, 9900, 10000, -1, 10001] : List Int).map (Value.int .i64)).toArray) w3 rfl) hD.2 (by omega))
  have HO4 := Lib.hid (Own.keptC (HO3.out.allocd _) hD.2 (by omega))
  have HB4 := Lib.hid ((show Below w.heap.size w _ from Below.alloc HB3.out (by omega) _).trans (hD.2.lowB (Nat.le_refl _) (by simp; omega)))
  have HC4 := Lib.hid hD.1
  have hz4 := hD.2.size
  (try simp at hz4)
  clear hD
  go_wp2_with fail
  refine (among_any w.heap.size A n c (304 + 2) w3.heap.size (5 + x / 11).toNat 7 [0, 4900, 5000, 9900, 10000, -1, 10001] w4 HC4.out (by decide) (by omega) HL4.out (by omega) (by omega) (by simp; omega) (by decide)).mono ?_
  rintro e w5 ⟨a, rfl, hD⟩
  have HO5 := Lib.hid (Own.keptC HO4.out hD.2 (by omega))
  have HB5 := Lib.hid (HB4.out.trans (hD.2.lowB (Nat.le_refl _) (by omega)))
  have HC5 := Lib.hid hD.1
  have hz5 := hD.2.size
  clear hD
  clear HL4 HO4 HB4 HC4 hx x0 x1
  go_wp2
  go_ret3
  exact ⟨m, b1, c1, f, t, a, rfl, hm, HO5.out.more (by omega), HB5.out⟩
end Go.Proofs.Ytclcgckledbpfaa
