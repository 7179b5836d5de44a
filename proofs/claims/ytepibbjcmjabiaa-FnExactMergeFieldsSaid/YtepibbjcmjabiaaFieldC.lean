/- Contracts of the functions that find the shoalest cell. -/
import Derived.Test.YtepibbjcmjabiaaFieldB
namespace Go.Proofs.Ytepibbjcmjabiaa
open Go.RowKit
/-- the first index of the least number -/
def bestI (L : Nat → Int) : Nat → Nat
  | 0 => 0
  | k + 1 => if L k < L (bestI L k) then k else bestI L k
theorem bestI_lt (L : Nat → Int) : ∀ k, 0 < k → bestI L k < k
  | 0, h => absurd h (by omega)
  | k + 1, _ => by
    unfold bestI
    split
    · omega
    · rcases Nat.eq_zero_or_pos k with rfl | h
      · simp [bestI]
      · have := bestI_lt L k h
        omega
theorem bestI_le (L : Nat → Int) : ∀ k i, i < k → L (bestI L k) ≤ L i
  | 0, i, h => absurd h (by omega)
  | k + 1, i, h => by
    unfold bestI
    rcases Nat.lt_or_ge i k with h1 | h1
    · have := bestI_le L k i h1
      split <;> omega
    · obtain rfl : i = k := by omega
      split <;> omega
theorem bestI_first (L : Nat → Int) : ∀ k i, i < bestI L k → L (bestI L k) < L i
  | 0, i, h => absurd h (by simp [bestI])
  | k + 1, i, h => by
    unfold bestI at h ⊢
    split at h
    · rename_i hq
      rw [if_pos hq]
      have := bestI_le L k i h
      omega
    · rename_i hq
      rw [if_neg hq]
      exact bestI_first L k i h
theorem bestI_hit {L : Nat → Int} {k : Nat} (h : L k < L (bestI L k)) : bestI L (k + 1) = k := by rw [bestI, if_pos h]
theorem bestI_miss {L : Nat → Int} {k : Nat} (h : ¬ L k < L (bestI L k)) : bestI L (k + 1) = bestI L k := by rw [bestI, if_neg h]
theorem minI_any (A : Option Addr) (n c : Nat) (L : Nat → Int) (w : World) (hS : SlI w A n L) (hn : n ≤ 1048576) (h0 : 0 < n) :
    Calls Try.prog 35 #[.slice A n c] w fun e w' => e = .returned (.int .i64 (L (bestI L n))) ∧ Below w.heap.size w w' := by
  obtain ⟨b, off, rfl, hbl, hbl2, c00⟩ := hS.at (Below.refl _ _) h0
  have c01 : w.cell? ⟨b, off, none⟩ = some (.int .i64 (L 0)) := c00
  clear c00
  have h1 : (1 : Int) ≤ n := by omega
  have h2 : ¬ ((n : Int) < 1) := by omega
  go_enter Try.func35, Try.ntmps35
  go_wp2
  go_loopw [3, 4] (fun v3 v4 wr => ∃ (k : Nat) (m : Int), 1 ≤ k ∧ k ≤ n ∧ v4 = .int .i64 k ∧ v3 = .int .i64 m ∧ m = L (bestI L k) ∧ Below w.heap.size w wr) (fun _ v4 _ => n - (intOf v4).toNat)
  case atStart => exact ⟨1, _, by omega, h0, rfl, rfl, by simp [bestI], by repeat' (first | (with_reducible exact Below.refl _ _) | (with_reducible assumption) | (with_reducible refine Below.alloc ?_ ?_ _) | (with_reducible refine Below.drew ?_) | (with_reducible refine Below.setCell ?_ ?_ _) | (with_reducible refine Below.stepB (by assumption) ?_ ?_) | go_size)⟩
  case round =>
    obtain ⟨k, m, hk1, hk, rfl, rfl, hm, hbr⟩ := hrel
    have hzr := hbr.size
    have HM := Lib.hid hm
    by_cases hlt : k < n
    · obtain ⟨b', off', hA', _, _, c0⟩ := hS.at hbr hlt
      obtain ⟨rfl, rfl⟩ : b = b' ∧ off = off' := by simpa using hA'
      by_cases hq : L k < m
      · have HQ := Lib.hid (bestI_hit (L := L) (k := k) (by rw [← hm]; exact hq))
        clear hm
        go_wp2
        go_roundw
        case rel => exact ⟨k + 1, L k, by omega, by omega, by go_num, by congr 1 <;> omega, by rw [HQ.out], by repeat' (first | (with_reducible exact Below.refl _ _) | (with_reducible assumption) | (with_reducible refine Below.alloc ?_ ?_ _) | (with_reducible refine Below.drew ?_) | (with_reducible refine Below.setCell ?_ ?_ _) | (with_reducible refine Below.stepB (by assumption) ?_ ?_) | go_size)⟩
        case measure => simp [intOf]; omega
      · have HQ := Lib.hid (bestI_miss (L := L) (k := k) (by rw [← hm]; exact hq))
        clear hm
        go_wp2
        go_roundw
        case rel => exact ⟨k + 1, m, by omega, by omega, by go_num, by congr 1 <;> omega, by rw [HQ.out]; exact HM.out, by repeat' (first | (with_reducible exact Below.refl _ _) | (with_reducible assumption) | (with_reducible refine Below.alloc ?_ ?_ _) | (with_reducible refine Below.drew ?_) | (with_reducible refine Below.setCell ?_ ?_ _) | (with_reducible refine Below.stepB (by assumption) ?_ ?_) | go_size)⟩
        case measure => simp [intOf]; omega
    · obtain rfl : k = n := by omega
      clear hm
      go_wp2
      go_ret
      exact ⟨ret_int HM.out, by repeat' (first | (with_reducible exact Below.refl _ _) | (with_reducible assumption) | (with_reducible refine Below.alloc ?_ ?_ _) | (with_reducible refine Below.drew ?_) | (with_reducible refine Below.setCell ?_ ?_ _) | (with_reducible refine Below.stepB (by assumption) ?_ ?_) | go_size)⟩
theorem indexI_any (A : Option Addr) (n c : Nat) (L : Nat → Int) (x : Int) (w : World) (hS : SlI w A n L) (hn : n ≤ 1048576) :
    Calls Try.prog 34 #[.slice A n c, .int .i64 x] w fun e w' => e = .returned (.int .i64 (idxP (fun i => decide (x = L i)) n)) ∧ Below w.heap.size w w' := by
  go_enter Try.func34, Try.ntmps34
  go_wp2
  go_loopw [8] (fun v8 wr => ∃ k : Nat, k ≤ n ∧ v8 = .int .i64 k ∧ Hid (∀ i, i < k → decide (x = L i) = false) ∧ Below w.heap.size w wr) (fun v8 _ => n - (intOf v8).toNat)
  case atStart => exact ⟨0, Nat.zero_le _, rfl, fun i hi => absurd hi (by omega), by repeat' (first | (with_reducible exact Below.refl _ _) | (with_reducible assumption) | (with_reducible refine Below.alloc ?_ ?_ _) | (with_reducible refine Below.drew ?_) | (with_reducible refine Below.setCell ?_ ?_ _) | (with_reducible refine Below.stepB (by assumption) ?_ ?_) | go_size)⟩
  case round =>
    obtain ⟨k, hk, rfl, hall, hbr⟩ := hrel
    have hzr := hbr.size
    by_cases hlt : k < n
    · obtain ⟨b, off, rfl, hbl, hbl2, c0⟩ := hS.at hbr hlt
      by_cases hq : x = L k
      · have HQ := Lib.hid (idxP_some (p := fun i => decide (x = L i)) (by simpa using hq) hall n hlt)
        go_wp2
        go_ret
        exact ⟨ret_int HQ.out.symm, by repeat' (first | (with_reducible exact Below.refl _ _) | (with_reducible assumption) | (with_reducible refine Below.alloc ?_ ?_ _) | (with_reducible refine Below.drew ?_) | (with_reducible refine Below.setCell ?_ ?_ _) | (with_reducible refine Below.stepB (by assumption) ?_ ?_) | go_size)⟩
      · have hall2 : Hid (∀ i, i < k + 1 → decide (x = L i) = false) := fun i hi => by
          rcases Nat.lt_or_ge i k with h1 | h1
          · exact hall i h1
          · obtain rfl : i = k := by omega
            simpa using hq
        go_wp2
        go_roundw
        case rel => exact ⟨k + 1, by omega, by go_num, hall2, by repeat' (first | (with_reducible exact Below.refl _ _) | (with_reducible assumption) | (with_reducible refine Below.alloc ?_ ?_ _) | (with_reducible refine Below.drew ?_) | (with_reducible refine Below.setCell ?_ ?_ _) | (with_reducible refine Below.stepB (by assumption) ?_ ?_) | go_size)⟩
        case measure => simp [intOf]; omega
    · obtain rfl : k = n := by omega
      go_wp2
      go_ret
      exact ⟨ret_int (idxP_none hall).symm, by repeat' (first | (with_reducible exact Below.refl _ _) | (with_reducible assumption) | (with_reducible refine Below.alloc ?_ ?_ _) | (with_reducible refine Below.drew ?_) | (with_reducible refine Below.setCell ?_ ?_ _) | (with_reducible refine Below.stepB (by assumption) ?_ ?_) | go_size)⟩
theorem idx_best (L : Nat → Int) (n : Nat) (h0 : 0 < n) : idxP (fun i => decide (L (bestI L n) = L i)) n = bestI L n :=
  idxP_some (p := fun i => decide (L (bestI L n) = L i)) (by simp) (fun i hi => by
    have := bestI_first L n i hi
    simp
    omega) n (bestI_lt L n h0)
theorem okF_bd {r cl : Int} {n : Nat} {L : Nat → Int} (h : okF r cl n L = true) : (1 ≤ r ∧ r ≤ 6) ∧ (1 ≤ cl ∧ cl ≤ 6) ∧ 0 < n ∧ n ≤ 36 ∧ (n : Int) = r * cl := by
  simp only [okF, Bool.and_eq_true] at h
  obtain ⟨_, ⟨h1, h2⟩, h3⟩ := h
  obtain ⟨s1, s2⟩ := side_bd h1 h2
  have h4 : (n : Int) = r * cl := by simpa using h3
  exact ⟨inB_iff.1 h1, inB_iff.1 h2, by omega, by omega, h4⟩
theorem ShoalestCell_yes (r cl : Int) (A : Option Addr) (n c : Nat) (L : Nat → Int) (w : World) (hS : SlI w A n L) (hn : n ≤ 1048576) (h : okF r cl n L = true) : Calls Try.prog 14 #[.agg #[.int .i64 r, .int .i64 cl, .slice A n c]] w
    fun e w' => e = .returned (.tuple #[.int .i64 (wrap64 ((bestI L n : Int) / cl)), .int .i64 ((bestI L n : Int) % cl), .bool true]) ∧ Below w.heap.size w w' := by
  obtain ⟨hr, hcl, h0, hn36, _⟩ := okF_bd h
  have HS := Lib.hid hS
  have hG := fun W (hb : Below w.heap.size w W) => IsField_any r cl A n c L W (hS.below hb) hn
  rw [h] at hG
  have HG := Lib.hid hG
  have hI := fun W (hb : Below w.heap.size w W) => indexI_any A n c L (L (bestI L n)) W (hS.below hb) hn
  rw [idx_best L n h0] at hI
  have HI := Lib.hid hI
  have hlt := bestI_lt L n h0
  clear hS hG hI h
  have hz : ¬ cl = 0 := by omega
  have hz2 : 0 < cl := by omega
  go_enter Try.func14, Try.ntmps14
  go_wp2_with fail
  refine (HG.out _ (by repeat' (first | (with_reducible exact Below.refl _ _) | (with_reducible assumption) | (with_reducible refine Below.alloc ?_ ?_ _) | (with_reducible refine Below.drew ?_) | (with_reducible refine Below.setCell ?_ ?_ _) | (with_reducible refine Below.stepB (by assumption) ?_ ?_) | go_size))).mono ?_
  rintro e w1 ⟨rfl, hbw1⟩
  obtain ⟨hzw1, hcw1, hfw1⟩ := bfacts hbw1; (try simp at hzw1 hcw1 hfw1); (try (have : w.heap.size < w1.heap.size := by omega)); (try (have : w.heap.size + 1 < w1.heap.size := by omega)); (try (have : w.heap.size + 1 + 1 < w1.heap.size := by omega)); (try (have : w.heap.size + 1 + 1 + 1 < w1.heap.size := by omega))
  have HB1 := Lib.hid (show Below w.heap.size w w1 by repeat' (first | (with_reducible exact Below.refl _ _) | (with_reducible assumption) | (with_reducible refine Below.alloc ?_ ?_ _) | (with_reducible refine Below.drew ?_) | (with_reducible refine Below.setCell ?_ ?_ _) | (with_reducible refine Below.stepB (by assumption) ?_ ?_) | go_size))
  go_wp2
  refine wp_region_later (by kernel_rfl) (by kernel_rfl) (fun hlx => ?_)
  repeat (go_big_quiet_step ((first | (go_at_call 35; exact Later.call (minI_any A n c L _ (HS.out.below (Later.old _ HB1.out (by omega))) hn h0)) | (go_at_call 34; exact Later.call (HI.out _ (Later.old _ HB1.out (by omega)))))))
  refine wpQuiet_nil ?_
  clear hlx
  intro w2 hbw2
  obtain ⟨hzw2, hcw2, hfw2⟩ := bfacts hbw2; (try simp at hzw2 hcw2 hfw2); (try (have : w.heap.size < w2.heap.size := by omega)); (try (have : w.heap.size + 1 < w2.heap.size := by omega)); (try (have : w.heap.size + 1 + 1 < w2.heap.size := by omega)); (try (have : w.heap.size + 1 + 1 + 1 < w2.heap.size := by omega))
  go_wp2
  refine wp_region_later (by kernel_rfl) (by kernel_rfl) (fun hlx => ?_)
  repeat (go_big_quiet_step (fail))
  refine wpQuiet_nil ?_
  clear hlx
  intro w3 hbw3
  obtain ⟨hzw3, hcw3, hfw3⟩ := bfacts hbw3; (try simp at hzw3 hcw3 hfw3); (try (have : w.heap.size < w3.heap.size := by omega)); (try (have : w.heap.size + 1 < w3.heap.size := by omega)); (try (have : w.heap.size + 1 + 1 < w3.heap.size := by omega)); (try (have : w.heap.size + 1 + 1 + 1 < w3.heap.size := by omega))
  go_wp2
  go_ret3
  exact ⟨rfl, by repeat' (first | (with_reducible exact Below.refl _ _) | (with_reducible assumption) | (with_reducible refine Below.alloc ?_ ?_ _) | (with_reducible refine Below.drew ?_) | (with_reducible refine Below.setCell ?_ ?_ _) | (with_reducible refine Below.stepB (by assumption) ?_ ?_) | go_size)⟩
theorem specShoalest_yes (r cl : Int) (A : Option Addr) (n c : Nat) (L : Nat → Int) (w : World) (hS : SlI w A n L) (hn : n ≤ 1048576) (h : okF r cl n L = true) : Calls Try.prog 13 #[.agg #[.int .i64 r, .int .i64 cl, .slice A n c]] w
    fun e w' => e = .returned (.tuple #[.int .i64 (wrap64 ((bestI L n : Int) / cl)), .int .i64 ((bestI L n : Int) % cl), .bool true]) ∧ Below w.heap.size w w' := by
  obtain ⟨hr, hcl, h0, hn36, _⟩ := okF_bd h
  have hG := fun W (hb : Below w.heap.size w W) => l19Good_any r cl A n c L W (hS.below hb) hn
  rw [h] at hG
  have HG := Lib.hid hG
  clear hG h
  have hz : ¬ cl = 0 := by omega
  have hz2 : 0 < cl := by omega
  go_enter Try.func13, Try.ntmps13
  go_wp2_with fail
  refine (HG.out _ (by repeat' (first | (with_reducible exact Below.refl _ _) | (with_reducible assumption) | (with_reducible refine Below.alloc ?_ ?_ _) | (with_reducible refine Below.drew ?_) | (with_reducible refine Below.setCell ?_ ?_ _) | (with_reducible refine Below.stepB (by assumption) ?_ ?_) | go_size))).mono ?_
  rintro e w1 ⟨rfl, hbw1⟩
  obtain ⟨hzw1, hcw1, hfw1⟩ := bfacts hbw1; (try simp at hzw1 hcw1 hfw1); (try (have : w.heap.size < w1.heap.size := by omega)); (try (have : w.heap.size + 1 < w1.heap.size := by omega)); (try (have : w.heap.size + 1 + 1 < w1.heap.size := by omega)); (try (have : w.heap.size + 1 + 1 + 1 < w1.heap.size := by omega))
  have hB1 : Blk w1 w.heap.size 27 #[.int .i64 r, .int .i64 cl, .slice A n c] := (blk_new w _ _ rfl).below hbw1 (by simp)
  go_wp2
  go_loopw [5, 6] (fun v5 v6 wr => ∃ (k m : Nat), 1 ≤ k ∧ k ≤ n ∧ v6 = .int .i64 k ∧ v5 = .int .i64 m ∧ m = bestI L k ∧ Blk wr w.heap.size 27 #[.int .i64 r, .int .i64 cl, .slice A n c] ∧ Below w.heap.size w wr) (fun _ v6 _ => n - (intOf v6).toNat)
  case atStart => exact ⟨1, 0, by omega, h0, rfl, rfl, by simp [bestI], hB1, by repeat' (first | (with_reducible exact Below.refl _ _) | (with_reducible assumption) | (with_reducible refine Below.alloc ?_ ?_ _) | (with_reducible refine Below.drew ?_) | (with_reducible refine Below.setCell ?_ ?_ _) | (with_reducible refine Below.stepB (by assumption) ?_ ?_) | go_size)⟩
  case round =>
    obtain ⟨k, m, hk1, hk, rfl, rfl, hm, hB, hbr⟩ := hrel
    have hzr := hbr.size
    have hmlt : m < n := by
      have := bestI_lt L k (by omega)
      omega
    have HM := Lib.hid hm
    clear hm hB1
    have hg0 := hB.lt
    have g0 := hB.cell 0
    have g1 := hB.cell 1
    have g2 := hB.cell 2
    simp only [List.getElem?_toArray] at g0 g1 g2
    have g1' : wr.cell? ⟨w.heap.size, 1, none⟩ = some (.int .i64 cl) := g1
    have g2' : wr.cell? ⟨w.heap.size, 2, none⟩ = some (.slice A n c) := g2
    clear g0 g1 g2
    by_cases hlt : k < n
    · obtain ⟨b, off, rfl, hbl, hbl2, c0⟩ := hS.at hbr hlt
      obtain ⟨b', off', hA', _, _, d0⟩ := hS.at hbr hmlt
      obtain ⟨rfl, rfl⟩ : b = b' ∧ off = off' := by simpa using hA'
      go_wp2
      refine wp_region_later (by kernel_rfl) (by kernel_rfl) (fun hlx => ?_)
      repeat (go_big_quiet_step (fail))
      refine wpQuiet_nil ?_
      clear hlx
      intro w3 hbw3
      obtain ⟨hzw3, hcw3, hfw3⟩ := bfacts hbw3; (try simp at hzw3 hcw3 hfw3); (try (have : w.heap.size < w3.heap.size := by omega)); (try (have : w.heap.size + 1 < w3.heap.size := by omega)); (try (have : w.heap.size + 1 + 1 < w3.heap.size := by omega)); (try (have : w.heap.size + 1 + 1 + 1 < w3.heap.size := by omega))
      have hB3 := hB.below hbw3 (by omega)
      by_cases hq : L k < L m
      · have HQ := Lib.hid (bestI_hit (L := L) (k := k) (by rw [← HM.out]; exact hq))
        go_wp2
        go_roundw
        case rel => exact ⟨k + 1, k, by omega, by omega, by go_num, rfl, HQ.out.symm, hB3, by repeat' (first | (with_reducible exact Below.refl _ _) | (with_reducible assumption) | (with_reducible refine Below.alloc ?_ ?_ _) | (with_reducible refine Below.drew ?_) | (with_reducible refine Below.setCell ?_ ?_ _) | (with_reducible refine Below.stepB (by assumption) ?_ ?_) | go_size)⟩
        case measure => simp [intOf]; omega
      · have HQ := Lib.hid (bestI_miss (L := L) (k := k) (by rw [← HM.out]; exact hq))
        go_wp2
        go_roundw
        case rel => exact ⟨k + 1, m, by omega, by omega, by go_num, rfl, by rw [HQ.out]; exact HM.out, hB3, by repeat' (first | (with_reducible exact Below.refl _ _) | (with_reducible assumption) | (with_reducible refine Below.alloc ?_ ?_ _) | (with_reducible refine Below.drew ?_) | (with_reducible refine Below.setCell ?_ ?_ _) | (with_reducible refine Below.stepB (by assumption) ?_ ?_) | go_size)⟩
        case measure => simp [intOf]; omega
    · obtain rfl : k = n := by omega
      go_wp2
      refine wp_region_later (by kernel_rfl) (by kernel_rfl) (fun hlx => ?_)
      repeat (go_big_quiet_step (fail))
      refine wpQuiet_nil ?_
      clear hlx
      intro w3 hbw3
      obtain ⟨hzw3, hcw3, hfw3⟩ := bfacts hbw3; (try simp at hzw3 hcw3 hfw3); (try (have : w.heap.size < w3.heap.size := by omega)); (try (have : w.heap.size + 1 < w3.heap.size := by omega)); (try (have : w.heap.size + 1 + 1 < w3.heap.size := by omega)); (try (have : w.heap.size + 1 + 1 + 1 < w3.heap.size := by omega))
      go_wp2
      go_ret3
      refine ⟨?_, by repeat' (first | (with_reducible exact Below.refl _ _) | (with_reducible assumption) | (with_reducible refine Below.alloc ?_ ?_ _) | (with_reducible refine Below.drew ?_) | (with_reducible refine Below.setCell ?_ ?_ _) | (with_reducible refine Below.stepB (by assumption) ?_ ?_) | go_size)⟩
      rw [← HM.out]
      rfl
/-- what is handed back: the row and the column, or zeros -/
def shQ (r cl : Int) (n : Nat) (L : Nat → Int) : Int := if okF r cl n L = true then wrap64 ((bestI L n : Int) / cl) else 0
def shR (r cl : Int) (n : Nat) (L : Nat → Int) : Int := if okF r cl n L = true then (bestI L n : Int) % cl else 0
theorem ShoalestCell_any (r cl : Int) (A : Option Addr) (n c : Nat) (L : Nat → Int) (w : World) (hS : SlI w A n L) (hn : n ≤ 1048576) : Calls Try.prog 14 #[.agg #[.int .i64 r, .int .i64 cl, .slice A n c]] w
    fun e w' => e = .returned (.tuple #[.int .i64 (shQ r cl n L), .int .i64 (shR r cl n L), .bool (okF r cl n L)]) ∧ Below w.heap.size w w' := by
  unfold shQ shR
  rcases Bool.eq_false_or_eq_true (okF r cl n L) with h | h
  · have := ShoalestCell_yes r cl A n c L w hS hn h
    rw [h, if_pos rfl, if_pos rfl]
    exact this
  · have hG := fun W (hb : Below w.heap.size w W) => IsField_any r cl A n c L W (hS.below hb) hn
    rw [h] at hG
    rw [h, if_neg (by decide), if_neg (by decide)]
    have HG := Lib.hid hG
    clear hG hS h
    go_enter Try.func14, Try.ntmps14
    go_wp2_with fail
    refine (HG.out _ (by repeat' (first | (with_reducible exact Below.refl _ _) | (with_reducible assumption) | (with_reducible refine Below.alloc ?_ ?_ _) | (with_reducible refine Below.drew ?_) | (with_reducible refine Below.setCell ?_ ?_ _) | (with_reducible refine Below.stepB (by assumption) ?_ ?_) | go_size))).mono ?_
    rintro e w1 ⟨rfl, hbw1⟩
    obtain ⟨hzw1, hcw1, hfw1⟩ := bfacts hbw1; (try simp at hzw1 hcw1 hfw1); (try (have : w.heap.size < w1.heap.size := by omega)); (try (have : w.heap.size + 1 < w1.heap.size := by omega)); (try (have : w.heap.size + 1 + 1 < w1.heap.size := by omega)); (try (have : w.heap.size + 1 + 1 + 1 < w1.heap.size := by omega))
    go_wp2
    go_ret3
    exact ⟨rfl, by repeat' (first | (with_reducible exact Below.refl _ _) | (with_reducible assumption) | (with_reducible refine Below.alloc ?_ ?_ _) | (with_reducible refine Below.drew ?_) | (with_reducible refine Below.setCell ?_ ?_ _) | (with_reducible refine Below.stepB (by assumption) ?_ ?_) | go_size)⟩
theorem specShoalest_any (r cl : Int) (A : Option Addr) (n c : Nat) (L : Nat → Int) (w : World) (hS : SlI w A n L) (hn : n ≤ 1048576) : Calls Try.prog 13 #[.agg #[.int .i64 r, .int .i64 cl, .slice A n c]] w
    fun e w' => e = .returned (.tuple #[.int .i64 (shQ r cl n L), .int .i64 (shR r cl n L), .bool (okF r cl n L)]) ∧ Below w.heap.size w w' := by
  unfold shQ shR
  rcases Bool.eq_false_or_eq_true (okF r cl n L) with h | h
  · have := specShoalest_yes r cl A n c L w hS hn h
    rw [h, if_pos rfl, if_pos rfl]
    exact this
  · have hG := fun W (hb : Below w.heap.size w W) => l19Good_any r cl A n c L W (hS.below hb) hn
    rw [h] at hG
    rw [h, if_neg (by decide), if_neg (by decide)]
    have HG := Lib.hid hG
    clear hG hS h
    go_enter Try.func13, Try.ntmps13
    go_wp2_with fail
    refine (HG.out _ (by repeat' (first | (with_reducible exact Below.refl _ _) | (with_reducible assumption) | (with_reducible refine Below.alloc ?_ ?_ _) | (with_reducible refine Below.drew ?_) | (with_reducible refine Below.setCell ?_ ?_ _) | (with_reducible refine Below.stepB (by assumption) ?_ ?_) | go_size))).mono ?_
    rintro e w1 ⟨rfl, hbw1⟩
    obtain ⟨hzw1, hcw1, hfw1⟩ := bfacts hbw1; (try simp at hzw1 hcw1 hfw1); (try (have : w.heap.size < w1.heap.size := by omega)); (try (have : w.heap.size + 1 < w1.heap.size := by omega)); (try (have : w.heap.size + 1 + 1 < w1.heap.size := by omega)); (try (have : w.heap.size + 1 + 1 + 1 < w1.heap.size := by omega))
    go_wp2
    go_ret3
    exact ⟨rfl, by repeat' (first | (with_reducible exact Below.refl _ _) | (with_reducible assumption) | (with_reducible refine Below.alloc ?_ ?_ _) | (with_reducible refine Below.drew ?_) | (with_reducible refine Below.setCell ?_ ?_ _) | (with_reducible refine Below.stepB (by assumption) ?_ ?_) | go_size)⟩
end Go.Proofs.Ytepibbjcmjabiaa
