/- The law on what a mesh is, over the contracts. -/
import Derived.Test.YtfflbkmncnaffaaMeshH
import Derived.Deep.RegionHeld3
import Derived.Test.YtfflbkmncnaffaaOuts
namespace Go.Proofs.Ytfflbkmncnaffaa
open Go.RowKit
theorem IsMesh_at (A : Option Addr) (n : Nat) (S : Nat → SP) (A2 : Option Addr) (m : Nat) (T : Nat → Nat → Int) (w : World) (hS : SlSP w A n S) (hS2 : SlT w A2 m T) (hn : n ≤ 1048576) (hm : m ≤ 1048576) :
    Calls Try.prog 21 #[.slice A n n, .slice A2 m m] w fun e w' => e = .returned (.bool (meshB S n T m)) ∧ Below w.heap.size w w' := IsMesh_any A n n S A2 m m T w hS hS2 hn hm (Nat.le_refl _) (Nat.le_refl _)
theorem law_IsMesh (A : Option Addr) (n c : Nat) (S : Nat → SP) (A2 : Option Addr) (m c2 : Nat) (T : Nat → Nat → Int)  (w : World) (hS : SlSP w A n S) (hS2 : SlT w A2 m T) (hm : n ≤ 9223372036854775807) (hm2 : m ≤ 9223372036854775807) :
    Calls Try.prog 6 #[.slice A n c, .slice A2 m c2] w fun e w' => e = .returned (.bool true) ∧ Below w.heap.size w w' := by
  have HS := Lib.hid hS
  have HS2 := Lib.hid hS2
  clear hS hS2
  by_cases hn : n ≤ 1048576
  rotate_left
  · go_enter Try.func6, Try.ntmps6
    go_wp2_with (go_at_call 45; refine (szSpotS_no A n c _ (by omega) hm).mono ?_; rintro e w' ⟨rfl, rfl⟩)
    go_ret
    exact ⟨rfl, by repeat' (first | (with_reducible exact Below.refl _ _) | (with_reducible assumption) | (with_reducible refine Below.alloc ?_ ?_ _) | (with_reducible refine Below.drew ?_) | (with_reducible refine Below.setCell ?_ ?_ _) | (with_reducible refine Below.stepB (by assumption) ?_ ?_) | go_size)⟩
  by_cases hnm : n + m ≤ 1048576
  rotate_left
  · go_enter Try.func6, Try.ntmps6
    go_wp2_with (first | (go_at_call 45; refine (szSpotS_yes A n c _ hn).mono ?_; rintro e w' ⟨rfl, rfl⟩) | (go_at_call 46; refine (szIntA3S_no A2 m c2 _ _ (by omega) (by omega) hm2).mono ?_; rintro e w' ⟨rfl, rfl⟩))
    go_ret
    exact ⟨rfl, by repeat' (first | (with_reducible exact Below.refl _ _) | (with_reducible assumption) | (with_reducible refine Below.alloc ?_ ?_ _) | (with_reducible refine Below.drew ?_) | (with_reducible refine Below.setCell ?_ ?_ _) | (with_reducible refine Below.stepB (by assumption) ?_ ?_) | go_size)⟩
  have hm1 : m ≤ 1048576 := by omega
  have hm3 : (m : Int) ≤ 1048576 - n := by omega
  have hm4 : (1048576 : Int) - n ≤ 1048576 := by omega
  go_enter Try.func6, Try.ntmps6
  go_wp2_with (first | (go_at_call 45; refine (szSpotS_yes A n c _ hn).mono ?_; rintro e w' ⟨rfl, rfl⟩) | (go_at_call 46; refine (szIntA3S_yes A2 m c2 _ _ hm3 hm4).mono ?_; rintro e w' ⟨rfl, rfl⟩))
  go_wp2_with fail
  refine (toSpotS_ex A n c S _ (HS.out.below (by repeat' (first | (with_reducible exact Below.refl _ _) | (with_reducible assumption) | (with_reducible refine Below.alloc ?_ ?_ _) | (with_reducible refine Below.drew ?_) | (with_reducible refine Below.setCell ?_ ?_ _) | (with_reducible refine Below.stepB (by assumption) ?_ ?_) | go_size))) hn).mono ?_
  rintro e w1 ⟨bw1, rfl, hOw1, hbw1⟩
  obtain ⟨hzw1, hcw1, hfw1⟩ := bfacts hbw1; (try simp at hzw1 hcw1 hfw1); (try (have : w.heap.size < w1.heap.size := by omega)); (try (have : w.heap.size + 1 < w1.heap.size := by omega)); (try (have : w.heap.size + 1 + 1 < w1.heap.size := by omega)); (try (have : w.heap.size + 1 + 1 + 1 < w1.heap.size := by omega))
  go_wp2_with fail
  refine (toIntA3S_ex A2 m c2 T _ (HS2.out.below (by repeat' (first | (with_reducible exact Below.refl _ _) | (with_reducible assumption) | (with_reducible refine Below.alloc ?_ ?_ _) | (with_reducible refine Below.drew ?_) | (with_reducible refine Below.setCell ?_ ?_ _) | (with_reducible refine Below.stepB (by assumption) ?_ ?_) | go_size))) hm1).mono ?_
  rintro e w2 ⟨bw2, rfl, hOw2, hbw2⟩
  obtain ⟨hzw2, hcw2, hfw2⟩ := bfacts hbw2; (try simp at hzw2 hcw2 hfw2); (try (have : w.heap.size < w2.heap.size := by omega)); (try (have : w.heap.size + 1 < w2.heap.size := by omega)); (try (have : w.heap.size + 1 + 1 < w2.heap.size := by omega)); (try (have : w.heap.size + 1 + 1 + 1 < w2.heap.size := by omega))
  go_wp2_with fail
  refine (specIsMesh_any _ n n S _ m m T _ (hOw1.below (by repeat' (first | (with_reducible exact Below.refl _ _) | (with_reducible assumption) | (with_reducible refine Below.alloc ?_ ?_ _) | (with_reducible refine Below.drew ?_) | (with_reducible refine Below.setCell ?_ ?_ _) | (with_reducible refine Below.stepB (by assumption) ?_ ?_) | go_size))).sl hOw2.sl hn hm1).mono ?_
  rintro e w3 ⟨rfl, hbw3⟩
  obtain ⟨hzw3, hcw3, hfw3⟩ := bfacts hbw3; (try simp at hzw3 hcw3 hfw3); (try (have : w.heap.size < w3.heap.size := by omega)); (try (have : w.heap.size + 1 < w3.heap.size := by omega)); (try (have : w.heap.size + 1 + 1 < w3.heap.size := by omega)); (try (have : w.heap.size + 1 + 1 + 1 < w3.heap.size := by omega))
  go_wp2_with fail
  refine (toSpotS_ex A n c S _ (HS.out.below (by repeat' (first | (with_reducible exact Below.refl _ _) | (with_reducible assumption) | (with_reducible refine Below.alloc ?_ ?_ _) | (with_reducible refine Below.drew ?_) | (with_reducible refine Below.setCell ?_ ?_ _) | (with_reducible refine Below.stepB (by assumption) ?_ ?_) | go_size))) hn).mono ?_
  rintro e w4 ⟨bw4, rfl, hOw4, hbw4⟩
  obtain ⟨hzw4, hcw4, hfw4⟩ := bfacts hbw4; (try simp at hzw4 hcw4 hfw4); (try (have : w.heap.size < w4.heap.size := by omega)); (try (have : w.heap.size + 1 < w4.heap.size := by omega)); (try (have : w.heap.size + 1 + 1 < w4.heap.size := by omega)); (try (have : w.heap.size + 1 + 1 + 1 < w4.heap.size := by omega))
  go_wp2_with fail
  refine (toIntA3S_ex A2 m c2 T _ (HS2.out.below (by repeat' (first | (with_reducible exact Below.refl _ _) | (with_reducible assumption) | (with_reducible refine Below.alloc ?_ ?_ _) | (with_reducible refine Below.drew ?_) | (with_reducible refine Below.setCell ?_ ?_ _) | (with_reducible refine Below.stepB (by assumption) ?_ ?_) | go_size))) hm1).mono ?_
  rintro e w5 ⟨bw5, rfl, hOw5, hbw5⟩
  obtain ⟨hzw5, hcw5, hfw5⟩ := bfacts hbw5; (try simp at hzw5 hcw5 hfw5); (try (have : w.heap.size < w5.heap.size := by omega)); (try (have : w.heap.size + 1 < w5.heap.size := by omega)); (try (have : w.heap.size + 1 + 1 < w5.heap.size := by omega)); (try (have : w.heap.size + 1 + 1 + 1 < w5.heap.size := by omega))
  go_wp2_with fail
  refine (IsMesh_at _ n S _ m T _ (hOw4.below (by repeat' (first | (with_reducible exact Below.refl _ _) | (with_reducible assumption) | (with_reducible refine Below.alloc ?_ ?_ _) | (with_reducible refine Below.drew ?_) | (with_reducible refine Below.setCell ?_ ?_ _) | (with_reducible refine Below.stepB (by assumption) ?_ ?_) | go_size))).sl hOw5.sl hn hm1).mono ?_
  rintro e w6 ⟨rfl, hbw6⟩
  obtain ⟨hzw6, hcw6, hfw6⟩ := bfacts hbw6; (try simp at hzw6 hcw6 hfw6); (try (have : w.heap.size < w6.heap.size := by omega)); (try (have : w.heap.size + 1 < w6.heap.size := by omega)); (try (have : w.heap.size + 1 + 1 < w6.heap.size := by omega)); (try (have : w.heap.size + 1 + 1 + 1 < w6.heap.size := by omega))
  go_wp2_with fail
  refine (toSpotS_ex A n c S _ (HS.out.below (by repeat' (first | (with_reducible exact Below.refl _ _) | (with_reducible assumption) | (with_reducible refine Below.alloc ?_ ?_ _) | (with_reducible refine Below.drew ?_) | (with_reducible refine Below.setCell ?_ ?_ _) | (with_reducible refine Below.stepB (by assumption) ?_ ?_) | go_size))) hn).mono ?_
  rintro e w7 ⟨b7, rfl, hO7, hbw7⟩
  obtain ⟨hzw7, hcw7, hfw7⟩ := bfacts hbw7; (try simp at hzw7 hcw7 hfw7); (try (have : w.heap.size < w7.heap.size := by omega)); (try (have : w.heap.size + 1 < w7.heap.size := by omega)); (try (have : w.heap.size + 1 + 1 < w7.heap.size := by omega)); (try (have : w.heap.size + 1 + 1 + 1 < w7.heap.size := by omega))
  go_wp2_with fail
  refine (eqSpotS_same _ _ n n n S _ (hOw4.below (by repeat' (first | (with_reducible exact Below.refl _ _) | (with_reducible assumption) | (with_reducible refine Below.alloc ?_ ?_ _) | (with_reducible refine Below.drew ?_) | (with_reducible refine Below.setCell ?_ ?_ _) | (with_reducible refine Below.stepB (by assumption) ?_ ?_) | go_size))).sl hO7.sl hn).mono ?_
  rintro e w8 ⟨rfl, hbw8⟩
  obtain ⟨hzw8, hcw8, hfw8⟩ := bfacts hbw8; (try simp at hzw8 hcw8 hfw8); (try (have : w.heap.size < w8.heap.size := by omega)); (try (have : w.heap.size + 1 < w8.heap.size := by omega)); (try (have : w.heap.size + 1 + 1 < w8.heap.size := by omega)); (try (have : w.heap.size + 1 + 1 + 1 < w8.heap.size := by omega))
  go_wp2_with fail
  refine (toIntA3S_ex A2 m c2 T _ (HS2.out.below (by repeat' (first | (with_reducible exact Below.refl _ _) | (with_reducible assumption) | (with_reducible refine Below.alloc ?_ ?_ _) | (with_reducible refine Below.drew ?_) | (with_reducible refine Below.setCell ?_ ?_ _) | (with_reducible refine Below.stepB (by assumption) ?_ ?_) | go_size))) hm1).mono ?_
  rintro e w9 ⟨b9, rfl, hO9, hbw9⟩
  obtain ⟨hzw9, hcw9, hfw9⟩ := bfacts hbw9; (try simp at hzw9 hcw9 hfw9); (try (have : w.heap.size < w9.heap.size := by omega)); (try (have : w.heap.size + 1 < w9.heap.size := by omega)); (try (have : w.heap.size + 1 + 1 < w9.heap.size := by omega)); (try (have : w.heap.size + 1 + 1 + 1 < w9.heap.size := by omega))
  go_wp2_with fail
  refine (eqIntA3S_same _ _ m m m T _ (hOw5.below (by repeat' (first | (with_reducible exact Below.refl _ _) | (with_reducible assumption) | (with_reducible refine Below.alloc ?_ ?_ _) | (with_reducible refine Below.drew ?_) | (with_reducible refine Below.setCell ?_ ?_ _) | (with_reducible refine Below.stepB (by assumption) ?_ ?_) | go_size))).sl hO9.sl hm1).mono ?_
  rintro e w10 ⟨rfl, hbw10⟩
  obtain ⟨hzw10, hcw10, hfw10⟩ := bfacts hbw10; (try simp at hzw10 hcw10 hfw10); (try (have : w.heap.size < w10.heap.size := by omega)); (try (have : w.heap.size + 1 < w10.heap.size := by omega)); (try (have : w.heap.size + 1 + 1 < w10.heap.size := by omega)); (try (have : w.heap.size + 1 + 1 + 1 < w10.heap.size := by omega))
  go_wp2
  go_ret
  exact ⟨rfl, by repeat' (first | (with_reducible exact Below.refl _ _) | (with_reducible assumption) | (with_reducible refine Below.alloc ?_ ?_ _) | (with_reducible refine Below.drew ?_) | (with_reducible refine Below.setCell ?_ ?_ _) | (with_reducible refine Below.stepB (by assumption) ?_ ?_) | go_size)⟩
theorem law_AreaOf (A : Option Addr) (n c : Nat) (S : Nat → SP) (A2 : Option Addr) (m c2 : Nat) (T : Nat → Nat → Int)  (w : World) (hS : SlSP w A n S) (hS2 : SlT w A2 m T) (hm : n ≤ 9223372036854775807) (hm2 : m ≤ 9223372036854775807) :
    Calls Try.prog 7 #[.slice A n c, .slice A2 m c2] w fun e w' => e = .returned (.bool true) ∧ Below w.heap.size w w' := by
  have HS := Lib.hid hS
  have HS2 := Lib.hid hS2
  clear hS hS2
  by_cases hn : n ≤ 1048576
  rotate_left
  · go_enter Try.func7, Try.ntmps7
    go_wp2_with (go_at_call 45; refine (szSpotS_no A n c _ (by omega) hm).mono ?_; rintro e w' ⟨rfl, rfl⟩)
    go_ret
    exact ⟨rfl, by repeat' (first | (with_reducible exact Below.refl _ _) | (with_reducible assumption) | (with_reducible refine Below.alloc ?_ ?_ _) | (with_reducible refine Below.drew ?_) | (with_reducible refine Below.setCell ?_ ?_ _) | (with_reducible refine Below.stepB (by assumption) ?_ ?_) | go_size)⟩
  by_cases hnm : n + m ≤ 1048576
  rotate_left
  · go_enter Try.func7, Try.ntmps7
    go_wp2_with (first | (go_at_call 45; refine (szSpotS_yes A n c _ hn).mono ?_; rintro e w' ⟨rfl, rfl⟩) | (go_at_call 46; refine (szIntA3S_no A2 m c2 _ _ (by omega) (by omega) hm2).mono ?_; rintro e w' ⟨rfl, rfl⟩))
    go_ret
    exact ⟨rfl, by repeat' (first | (with_reducible exact Below.refl _ _) | (with_reducible assumption) | (with_reducible refine Below.alloc ?_ ?_ _) | (with_reducible refine Below.drew ?_) | (with_reducible refine Below.setCell ?_ ?_ _) | (with_reducible refine Below.stepB (by assumption) ?_ ?_) | go_size)⟩
  have hm1 : m ≤ 1048576 := by omega
  have hm3 : (m : Int) ≤ 1048576 - n := by omega
  have hm4 : (1048576 : Int) - n ≤ 1048576 := by omega
  go_enter Try.func7, Try.ntmps7
  go_wp2_with (first | (go_at_call 45; refine (szSpotS_yes A n c _ hn).mono ?_; rintro e w' ⟨rfl, rfl⟩) | (go_at_call 46; refine (szIntA3S_yes A2 m c2 _ _ hm3 hm4).mono ?_; rintro e w' ⟨rfl, rfl⟩))
  go_wp2_with fail
  refine (toSpotS_ex A n c S _ (HS.out.below (by repeat' (first | (with_reducible exact Below.refl _ _) | (with_reducible assumption) | (with_reducible refine Below.alloc ?_ ?_ _) | (with_reducible refine Below.drew ?_) | (with_reducible refine Below.setCell ?_ ?_ _) | (with_reducible refine Below.stepB (by assumption) ?_ ?_) | go_size))) hn).mono ?_
  rintro e w1 ⟨bw1, rfl, hOw1, hbw1⟩
  obtain ⟨hzw1, hcw1, hfw1⟩ := bfacts hbw1; (try simp at hzw1 hcw1 hfw1); (try (have : w.heap.size < w1.heap.size := by omega)); (try (have : w.heap.size + 1 < w1.heap.size := by omega)); (try (have : w.heap.size + 1 + 1 < w1.heap.size := by omega)); (try (have : w.heap.size + 1 + 1 + 1 < w1.heap.size := by omega))
  go_wp2_with fail
  refine (toIntA3S_ex A2 m c2 T _ (HS2.out.below (by repeat' (first | (with_reducible exact Below.refl _ _) | (with_reducible assumption) | (with_reducible refine Below.alloc ?_ ?_ _) | (with_reducible refine Below.drew ?_) | (with_reducible refine Below.setCell ?_ ?_ _) | (with_reducible refine Below.stepB (by assumption) ?_ ?_) | go_size))) hm1).mono ?_
  rintro e w2 ⟨bw2, rfl, hOw2, hbw2⟩
  obtain ⟨hzw2, hcw2, hfw2⟩ := bfacts hbw2; (try simp at hzw2 hcw2 hfw2); (try (have : w.heap.size < w2.heap.size := by omega)); (try (have : w.heap.size + 1 < w2.heap.size := by omega)); (try (have : w.heap.size + 1 + 1 < w2.heap.size := by omega)); (try (have : w.heap.size + 1 + 1 + 1 < w2.heap.size := by omega))
  go_wp2_with fail
  refine (specArea_any _ n n S _ m m T _ (hOw1.below (by repeat' (first | (with_reducible exact Below.refl _ _) | (with_reducible assumption) | (with_reducible refine Below.alloc ?_ ?_ _) | (with_reducible refine Below.drew ?_) | (with_reducible refine Below.setCell ?_ ?_ _) | (with_reducible refine Below.stepB (by assumption) ?_ ?_) | go_size))).sl hOw2.sl hn hm1).mono ?_
  rintro e w3 ⟨rfl, hbw3⟩
  obtain ⟨hzw3, hcw3, hfw3⟩ := bfacts hbw3; (try simp at hzw3 hcw3 hfw3); (try (have : w.heap.size < w3.heap.size := by omega)); (try (have : w.heap.size + 1 < w3.heap.size := by omega)); (try (have : w.heap.size + 1 + 1 < w3.heap.size := by omega)); (try (have : w.heap.size + 1 + 1 + 1 < w3.heap.size := by omega))
  go_wp2_with fail
  refine (toSpotS_ex A n c S _ (HS.out.below (by repeat' (first | (with_reducible exact Below.refl _ _) | (with_reducible assumption) | (with_reducible refine Below.alloc ?_ ?_ _) | (with_reducible refine Below.drew ?_) | (with_reducible refine Below.setCell ?_ ?_ _) | (with_reducible refine Below.stepB (by assumption) ?_ ?_) | go_size))) hn).mono ?_
  rintro e w4 ⟨bw4, rfl, hOw4, hbw4⟩
  obtain ⟨hzw4, hcw4, hfw4⟩ := bfacts hbw4; (try simp at hzw4 hcw4 hfw4); (try (have : w.heap.size < w4.heap.size := by omega)); (try (have : w.heap.size + 1 < w4.heap.size := by omega)); (try (have : w.heap.size + 1 + 1 < w4.heap.size := by omega)); (try (have : w.heap.size + 1 + 1 + 1 < w4.heap.size := by omega))
  go_wp2_with fail
  refine (toIntA3S_ex A2 m c2 T _ (HS2.out.below (by repeat' (first | (with_reducible exact Below.refl _ _) | (with_reducible assumption) | (with_reducible refine Below.alloc ?_ ?_ _) | (with_reducible refine Below.drew ?_) | (with_reducible refine Below.setCell ?_ ?_ _) | (with_reducible refine Below.stepB (by assumption) ?_ ?_) | go_size))) hm1).mono ?_
  rintro e w5 ⟨bw5, rfl, hOw5, hbw5⟩
  obtain ⟨hzw5, hcw5, hfw5⟩ := bfacts hbw5; (try simp at hzw5 hcw5 hfw5); (try (have : w.heap.size < w5.heap.size := by omega)); (try (have : w.heap.size + 1 < w5.heap.size := by omega)); (try (have : w.heap.size + 1 + 1 < w5.heap.size := by omega)); (try (have : w.heap.size + 1 + 1 + 1 < w5.heap.size := by omega))
  go_wp2_with fail
  refine (Area_at _ n S _ m T _ (hOw4.below (by repeat' (first | (with_reducible exact Below.refl _ _) | (with_reducible assumption) | (with_reducible refine Below.alloc ?_ ?_ _) | (with_reducible refine Below.drew ?_) | (with_reducible refine Below.setCell ?_ ?_ _) | (with_reducible refine Below.stepB (by assumption) ?_ ?_) | go_size))).sl hOw5.sl hn hm1).mono ?_
  rintro e w6 ⟨rfl, hbw6⟩
  obtain ⟨hzw6, hcw6, hfw6⟩ := bfacts hbw6; (try simp at hzw6 hcw6 hfw6); (try (have : w.heap.size < w6.heap.size := by omega)); (try (have : w.heap.size + 1 < w6.heap.size := by omega)); (try (have : w.heap.size + 1 + 1 < w6.heap.size := by omega)); (try (have : w.heap.size + 1 + 1 + 1 < w6.heap.size := by omega))
  go_wp2_with fail
  refine (toSpotS_ex A n c S _ (HS.out.below (by repeat' (first | (with_reducible exact Below.refl _ _) | (with_reducible assumption) | (with_reducible refine Below.alloc ?_ ?_ _) | (with_reducible refine Below.drew ?_) | (with_reducible refine Below.setCell ?_ ?_ _) | (with_reducible refine Below.stepB (by assumption) ?_ ?_) | go_size))) hn).mono ?_
  rintro e w7 ⟨b7, rfl, hO7, hbw7⟩
  obtain ⟨hzw7, hcw7, hfw7⟩ := bfacts hbw7; (try simp at hzw7 hcw7 hfw7); (try (have : w.heap.size < w7.heap.size := by omega)); (try (have : w.heap.size + 1 < w7.heap.size := by omega)); (try (have : w.heap.size + 1 + 1 < w7.heap.size := by omega)); (try (have : w.heap.size + 1 + 1 + 1 < w7.heap.size := by omega))
  go_wp2_with fail
  refine (eqSpotS_same _ _ n n n S _ (hOw4.below (by repeat' (first | (with_reducible exact Below.refl _ _) | (with_reducible assumption) | (with_reducible refine Below.alloc ?_ ?_ _) | (with_reducible refine Below.drew ?_) | (with_reducible refine Below.setCell ?_ ?_ _) | (with_reducible refine Below.stepB (by assumption) ?_ ?_) | go_size))).sl hO7.sl hn).mono ?_
  rintro e w8 ⟨rfl, hbw8⟩
  obtain ⟨hzw8, hcw8, hfw8⟩ := bfacts hbw8; (try simp at hzw8 hcw8 hfw8); (try (have : w.heap.size < w8.heap.size := by omega)); (try (have : w.heap.size + 1 < w8.heap.size := by omega)); (try (have : w.heap.size + 1 + 1 < w8.heap.size := by omega)); (try (have : w.heap.size + 1 + 1 + 1 < w8.heap.size := by omega))
  go_wp2_with fail
  refine (toIntA3S_ex A2 m c2 T _ (HS2.out.below (by repeat' (first | (with_reducible exact Below.refl _ _) | (with_reducible assumption) | (with_reducible refine Below.alloc ?_ ?_ _) | (with_reducible refine Below.drew ?_) | (with_reducible refine Below.setCell ?_ ?_ _) | (with_reducible refine Below.stepB (by assumption) ?_ ?_) | go_size))) hm1).mono ?_
  rintro e w9 ⟨b9, rfl, hO9, hbw9⟩
  obtain ⟨hzw9, hcw9, hfw9⟩ := bfacts hbw9; (try simp at hzw9 hcw9 hfw9); (try (have : w.heap.size < w9.heap.size := by omega)); (try (have : w.heap.size + 1 < w9.heap.size := by omega)); (try (have : w.heap.size + 1 + 1 < w9.heap.size := by omega)); (try (have : w.heap.size + 1 + 1 + 1 < w9.heap.size := by omega))
  go_wp2_with fail
  refine (eqIntA3S_same _ _ m m m T _ (hOw5.below (by repeat' (first | (with_reducible exact Below.refl _ _) | (with_reducible assumption) | (with_reducible refine Below.alloc ?_ ?_ _) | (with_reducible refine Below.drew ?_) | (with_reducible refine Below.setCell ?_ ?_ _) | (with_reducible refine Below.stepB (by assumption) ?_ ?_) | go_size))).sl hO9.sl hm1).mono ?_
  rintro e w10 ⟨rfl, hbw10⟩
  obtain ⟨hzw10, hcw10, hfw10⟩ := bfacts hbw10; (try simp at hzw10 hcw10 hfw10); (try (have : w.heap.size < w10.heap.size := by omega)); (try (have : w.heap.size + 1 < w10.heap.size := by omega)); (try (have : w.heap.size + 1 + 1 < w10.heap.size := by omega)); (try (have : w.heap.size + 1 + 1 + 1 < w10.heap.size := by omega))
  go_wp2
  go_ret
  exact ⟨rfl, by repeat' (first | (with_reducible exact Below.refl _ _) | (with_reducible assumption) | (with_reducible refine Below.alloc ?_ ?_ _) | (with_reducible refine Below.drew ?_) | (with_reducible refine Below.setCell ?_ ?_ _) | (with_reducible refine Below.stepB (by assumption) ?_ ?_) | go_size)⟩
set_option maxRecDepth 100000 in
theorem law_TriangleAt (A : Option Addr) (n c : Nat) (S : Nat → SP) (A2 : Option Addr) (m c2 : Nat) (T : Nat → Nat → Int) (p : SP) (w : World) (hS : SlSP w A n S) (hS2 : SlT w A2 m T) (hm : n ≤ 9223372036854775807) (hm2 : m ≤ 9223372036854775807) :
    Calls Try.prog 8 #[.slice A n c, .slice A2 m c2, .agg #[.int .i64 p.x, .int .i64 p.y]] w fun e w' => e = .returned (.bool true) ∧ Below w.heap.size w w' := by
  have HS := Lib.hid hS
  have HS2 := Lib.hid hS2
  clear hS hS2
  by_cases hn : n ≤ 1048576
  rotate_left
  · go_enter Try.func8, Try.ntmps8
    go_wp2_with (go_at_call 45; refine (szSpotS_no A n c _ (by omega) hm).mono ?_; rintro e w' ⟨rfl, rfl⟩)
    go_ret
    exact ⟨rfl, by repeat' (first | (with_reducible exact Below.refl _ _) | (with_reducible assumption) | (with_reducible refine Below.alloc ?_ ?_ _) | (with_reducible refine Below.drew ?_) | (with_reducible refine Below.setCell ?_ ?_ _) | (with_reducible refine Below.stepB (by assumption) ?_ ?_) | go_size)⟩
  by_cases hnm : n + m ≤ 1048576
  rotate_left
  · go_enter Try.func8, Try.ntmps8
    go_wp2_with (first | (go_at_call 45; refine (szSpotS_yes A n c _ hn).mono ?_; rintro e w' ⟨rfl, rfl⟩) | (go_at_call 46; refine (szIntA3S_no A2 m c2 _ _ (by omega) (by omega) hm2).mono ?_; rintro e w' ⟨rfl, rfl⟩))
    go_ret
    exact ⟨rfl, by repeat' (first | (with_reducible exact Below.refl _ _) | (with_reducible assumption) | (with_reducible refine Below.alloc ?_ ?_ _) | (with_reducible refine Below.drew ?_) | (with_reducible refine Below.setCell ?_ ?_ _) | (with_reducible refine Below.stepB (by assumption) ?_ ?_) | go_size)⟩
  have hm1 : m ≤ 1048576 := by omega
  have hm3 : (m : Int) ≤ 1048576 - n := by omega
  have hm4 : (1048576 : Int) - n ≤ 1048576 := by omega
  go_enter Try.func8, Try.ntmps8
  go_wp2_with (first | (go_at_call 45; refine (szSpotS_yes A n c _ hn).mono ?_; rintro e w' ⟨rfl, rfl⟩) | (go_at_call 46; refine (szIntA3S_yes A2 m c2 _ _ hm3 hm4).mono ?_; rintro e w' ⟨rfl, rfl⟩))
  go_region_held3 (fun w' => w'.cell? ⟨w.heap.size, 0, none⟩ = some (.int .i64 p.x) ∧ w'.cell? ⟨w.heap.size, 1, none⟩ = some (.int .i64 p.y)) (first | go_keep | ((try dsimp only); (repeat' apply And.intro) <;> go_keep)) (first
      | (go_at_call 47; refine (toSpotS_ex A n c S _ (HS.out.below (by repeat' (first | (with_reducible exact Below.refl _ _) | (with_reducible assumption) | (with_reducible refine Below.alloc ?_ ?_ _) | (with_reducible refine Below.drew ?_) | (with_reducible refine Below.setCell ?_ ?_ _) | (with_reducible refine Below.stepB (by assumption) ?_ ?_) | go_size))) hn).mono ?_; rintro e w1 ⟨b1, rfl, hO1, hbw1⟩; obtain ⟨hzw1, hcw1, hfw1⟩ := bfacts hbw1; (try simp at hzw1 hcw1 hfw1); (try (have : w.heap.size < w1.heap.size := by omega)); (try (have : w.heap.size + 1 < w1.heap.size := by omega)); (try (have : w.heap.size + 1 + 1 < w1.heap.size := by omega)); (try (have : w.heap.size + 1 + 1 + 1 < w1.heap.size := by omega)))
      | (go_at_call 48; refine (toIntA3S_ex A2 m c2 T _ (HS2.out.below (by repeat' (first | (with_reducible exact Below.refl _ _) | (with_reducible assumption) | (with_reducible refine Below.alloc ?_ ?_ _) | (with_reducible refine Below.drew ?_) | (with_reducible refine Below.setCell ?_ ?_ _) | (with_reducible refine Below.stepB (by assumption) ?_ ?_) | go_size))) hm1).mono ?_; rintro e w2 ⟨b2, rfl, hO2, hbw2⟩; obtain ⟨hzw2, hcw2, hfw2⟩ := bfacts hbw2; (try simp at hzw2 hcw2 hfw2); (try (have : w.heap.size < w2.heap.size := by omega)); (try (have : w.heap.size + 1 < w2.heap.size := by omega)); (try (have : w.heap.size + 1 + 1 < w2.heap.size := by omega)); (try (have : w.heap.size + 1 + 1 + 1 < w2.heap.size := by omega)))
      | (go_at_call 15; refine (toSpot_bel _ _ _).mono ?_; rintro e w3 ⟨rfl, hbw3⟩; obtain ⟨hzw3, hcw3, hfw3⟩ := bfacts hbw3; (try simp at hzw3 hcw3 hfw3); (try (have : w.heap.size < w3.heap.size := by omega)); (try (have : w.heap.size + 1 < w3.heap.size := by omega)); (try (have : w.heap.size + 1 + 1 < w3.heap.size := by omega)); (try (have : w.heap.size + 1 + 1 + 1 < w3.heap.size := by omega)))
      | (go_at_call 33; refine (specTriAt_any _ n n S _ m m T p _ (hO1.below (by repeat' (first | (with_reducible exact Below.refl _ _) | (with_reducible assumption) | (with_reducible refine Below.alloc ?_ ?_ _) | (with_reducible refine Below.drew ?_) | (with_reducible refine Below.setCell ?_ ?_ _) | (with_reducible refine Below.stepB (by assumption) ?_ ?_) | go_size))).sl (hO2.below (by repeat' (first | (with_reducible exact Below.refl _ _) | (with_reducible assumption) | (with_reducible refine Below.alloc ?_ ?_ _) | (with_reducible refine Below.drew ?_) | (with_reducible refine Below.setCell ?_ ?_ _) | (with_reducible refine Below.stepB (by assumption) ?_ ?_) | go_size))).sl hn hm1).mono ?_; rintro e w4 ⟨rfl, hbw4⟩; obtain ⟨hzw4, hcw4, hfw4⟩ := bfacts hbw4; (try simp at hzw4 hcw4 hfw4); (try (have : w.heap.size < w4.heap.size := by omega)); (try (have : w.heap.size + 1 < w4.heap.size := by omega)); (try (have : w.heap.size + 1 + 1 < w4.heap.size := by omega)); (try (have : w.heap.size + 1 + 1 + 1 < w4.heap.size := by omega))))
  go_wp2_with fail
  refine (toSpotS_ex A n c S _ (HS.out.below (by repeat' (first | (with_reducible exact Below.refl _ _) | (with_reducible assumption) | (with_reducible refine Below.alloc ?_ ?_ _) | (with_reducible refine Below.drew ?_) | (with_reducible refine Below.setCell ?_ ?_ _) | (with_reducible refine Below.stepB (by assumption) ?_ ?_) | go_size))) hn).mono ?_
  rintro e w5 ⟨b5, rfl, hO5, hbw5⟩
  obtain ⟨hzw5, hcw5, hfw5⟩ := bfacts hbw5; (try simp at hzw5 hcw5 hfw5); (try (have : w.heap.size < w5.heap.size := by omega)); (try (have : w.heap.size + 1 < w5.heap.size := by omega)); (try (have : w.heap.size + 1 + 1 < w5.heap.size := by omega)); (try (have : w.heap.size + 1 + 1 + 1 < w5.heap.size := by omega))
  go_wp2_with fail
  refine (toIntA3S_ex A2 m c2 T _ (HS2.out.below (by repeat' (first | (with_reducible exact Below.refl _ _) | (with_reducible assumption) | (with_reducible refine Below.alloc ?_ ?_ _) | (with_reducible refine Below.drew ?_) | (with_reducible refine Below.setCell ?_ ?_ _) | (with_reducible refine Below.stepB (by assumption) ?_ ?_) | go_size))) hm1).mono ?_
  rintro e w6 ⟨b6, rfl, hO6, hbw6⟩
  obtain ⟨hzw6, hcw6, hfw6⟩ := bfacts hbw6; (try simp at hzw6 hcw6 hfw6); (try (have : w.heap.size < w6.heap.size := by omega)); (try (have : w.heap.size + 1 < w6.heap.size := by omega)); (try (have : w.heap.size + 1 + 1 < w6.heap.size := by omega)); (try (have : w.heap.size + 1 + 1 + 1 < w6.heap.size := by omega))
  go_wp2_with fail
  refine (toSpot_bel _ _ _).mono ?_
  rintro e w7 ⟨rfl, hbw7⟩
  obtain ⟨hzw7, hcw7, hfw7⟩ := bfacts hbw7; (try simp at hzw7 hcw7 hfw7); (try (have : w.heap.size < w7.heap.size := by omega)); (try (have : w.heap.size + 1 < w7.heap.size := by omega)); (try (have : w.heap.size + 1 + 1 < w7.heap.size := by omega)); (try (have : w.heap.size + 1 + 1 + 1 < w7.heap.size := by omega))
  go_wp2_with fail
  refine (TriAt_at _ n S _ m T p _ (hO5.below (by repeat' (first | (with_reducible exact Below.refl _ _) | (with_reducible assumption) | (with_reducible refine Below.alloc ?_ ?_ _) | (with_reducible refine Below.drew ?_) | (with_reducible refine Below.setCell ?_ ?_ _) | (with_reducible refine Below.stepB (by assumption) ?_ ?_) | go_size))).sl (hO6.below (by repeat' (first | (with_reducible exact Below.refl _ _) | (with_reducible assumption) | (with_reducible refine Below.alloc ?_ ?_ _) | (with_reducible refine Below.drew ?_) | (with_reducible refine Below.setCell ?_ ?_ _) | (with_reducible refine Below.stepB (by assumption) ?_ ?_) | go_size))).sl hn hm1).mono ?_
  rintro e w8 ⟨rfl, hbw8⟩
  obtain ⟨hzw8, hcw8, hfw8⟩ := bfacts hbw8; (try simp at hzw8 hcw8 hfw8); (try (have : w.heap.size < w8.heap.size := by omega)); (try (have : w.heap.size + 1 < w8.heap.size := by omega)); (try (have : w.heap.size + 1 + 1 < w8.heap.size := by omega)); (try (have : w.heap.size + 1 + 1 + 1 < w8.heap.size := by omega))
  go_wp2_with fail
  refine (toSpotS_ex A n c S _ (HS.out.below (by repeat' (first | (with_reducible exact Below.refl _ _) | (with_reducible assumption) | (with_reducible refine Below.alloc ?_ ?_ _) | (with_reducible refine Below.drew ?_) | (with_reducible refine Below.setCell ?_ ?_ _) | (with_reducible refine Below.stepB (by assumption) ?_ ?_) | go_size))) hn).mono ?_
  rintro e w9 ⟨b9, rfl, hO9, hbw9⟩
  obtain ⟨hzw9, hcw9, hfw9⟩ := bfacts hbw9; (try simp at hzw9 hcw9 hfw9); (try (have : w.heap.size < w9.heap.size := by omega)); (try (have : w.heap.size + 1 < w9.heap.size := by omega)); (try (have : w.heap.size + 1 + 1 < w9.heap.size := by omega)); (try (have : w.heap.size + 1 + 1 + 1 < w9.heap.size := by omega))
  go_wp2_with fail
  refine (eqSpotS_same _ _ n n n S _ (hO5.below (by repeat' (first | (with_reducible exact Below.refl _ _) | (with_reducible assumption) | (with_reducible refine Below.alloc ?_ ?_ _) | (with_reducible refine Below.drew ?_) | (with_reducible refine Below.setCell ?_ ?_ _) | (with_reducible refine Below.stepB (by assumption) ?_ ?_) | go_size))).sl hO9.sl hn).mono ?_
  rintro e w10 ⟨rfl, hbw10⟩
  obtain ⟨hzw10, hcw10, hfw10⟩ := bfacts hbw10; (try simp at hzw10 hcw10 hfw10); (try (have : w.heap.size < w10.heap.size := by omega)); (try (have : w.heap.size + 1 < w10.heap.size := by omega)); (try (have : w.heap.size + 1 + 1 < w10.heap.size := by omega)); (try (have : w.heap.size + 1 + 1 + 1 < w10.heap.size := by omega))
  go_wp2_with fail
  refine (toIntA3S_ex A2 m c2 T _ (HS2.out.below (by repeat' (first | (with_reducible exact Below.refl _ _) | (with_reducible assumption) | (with_reducible refine Below.alloc ?_ ?_ _) | (with_reducible refine Below.drew ?_) | (with_reducible refine Below.setCell ?_ ?_ _) | (with_reducible refine Below.stepB (by assumption) ?_ ?_) | go_size))) hm1).mono ?_
  rintro e w11 ⟨b11, rfl, hO11, hbw11⟩
  obtain ⟨hzw11, hcw11, hfw11⟩ := bfacts hbw11; (try simp at hzw11 hcw11 hfw11); (try (have : w.heap.size < w11.heap.size := by omega)); (try (have : w.heap.size + 1 < w11.heap.size := by omega)); (try (have : w.heap.size + 1 + 1 < w11.heap.size := by omega)); (try (have : w.heap.size + 1 + 1 + 1 < w11.heap.size := by omega))
  go_wp2_with fail
  refine (eqIntA3S_same _ _ m m m T _ (hO6.below (by repeat' (first | (with_reducible exact Below.refl _ _) | (with_reducible assumption) | (with_reducible refine Below.alloc ?_ ?_ _) | (with_reducible refine Below.drew ?_) | (with_reducible refine Below.setCell ?_ ?_ _) | (with_reducible refine Below.stepB (by assumption) ?_ ?_) | go_size))).sl hO11.sl hm1).mono ?_
  rintro e w12 ⟨rfl, hbw12⟩
  obtain ⟨hzw12, hcw12, hfw12⟩ := bfacts hbw12; (try simp at hzw12 hcw12 hfw12); (try (have : w.heap.size < w12.heap.size := by omega)); (try (have : w.heap.size + 1 < w12.heap.size := by omega)); (try (have : w.heap.size + 1 + 1 < w12.heap.size := by omega)); (try (have : w.heap.size + 1 + 1 + 1 < w12.heap.size := by omega))
  go_wp2
  go_ret
  exact ⟨rfl, by repeat' (first | (with_reducible exact Below.refl _ _) | (with_reducible assumption) | (with_reducible refine Below.alloc ?_ ?_ _) | (with_reducible refine Below.drew ?_) | (with_reducible refine Below.setCell ?_ ?_ _) | (with_reducible refine Below.stepB (by assumption) ?_ ?_) | go_size)⟩
end Go.Proofs.Ytfflbkmncnaffaa
