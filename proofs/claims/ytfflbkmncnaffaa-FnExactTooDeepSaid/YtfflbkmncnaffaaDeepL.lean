/- The law on the soundings under which the mesh is too deep, over the contracts. -/
import Derived.Test.YtfflbkmncnaffaaDeepA
import Derived.Test.YtfflbkmncnaffaaMeshK
namespace Go.Proofs.Ytfflbkmncnaffaa
open Go.RowKit
theorem szSoundG_yes (A : Option Addr) (n c : Nat) (s : Int) (w : World) (hn : n ≤ s) (hs : s ≤ 1048576) : Calls Try.prog 60 #[.slice A n c, .int .i64 s] w fun e w' => e = .returned (.int .i64 (s - n)) ∧ w = w' := by
  go_enter Try.func60, Try.ntmps60
  go_wp2
  go_ret
  exact ⟨rfl, rfl⟩
theorem szSoundG_no (A : Option Addr) (n c : Nat) (s : Int) (w : World) (hn : s < n) (hs0 : 0 ≤ s) (hm : n ≤ 9223372036854775807) : Calls Try.prog 60 #[.slice A n c, .int .i64 s] w fun e w' => e = .returned (.int .i64 (-1)) ∧ w = w' := by
  go_enter Try.func60, Try.ntmps60
  go_wp2
  go_ret
  exact ⟨rfl, rfl⟩
theorem Deep_at (A : Option Addr) (n : Nat) (S : Nat → SP) (A2 : Option Addr) (m : Nat) (T : Nat → Nat → Int) (A3 : Option Addr) (d c3 : Nat) (L : Nat → Int) (A4 : Option Addr) (q c4 : Nat) (f : Nat → SD) (w : World) (hS : SlSP w A n S) (hS2 : SlT w A2 m T) (hS3 : SlI w A3 d L) (hS4 : SlSD w A4 q f) (hn : n ≤ 1048576) (hm : m ≤ 1048576) (hd : d ≤ 1048576) (hq : q ≤ 1048576) :
    Calls Try.prog 40 #[.slice A n n, .slice A2 m m, .slice A3 d c3, .slice A4 q c4] w fun e w' => IntsOut w (tdO S n T m L d f q) (tdB S n T m L d f q) e w' := TooDeep_any A n n S A2 m m T A3 d c3 L A4 q c4 f w hS hS2 hS3 hS4 hn hm hd hq (Nat.le_refl _) (Nat.le_refl _)
set_option maxRecDepth 100000 in
set_option maxHeartbeats 1000000 in
theorem law_TooDeep (A : Option Addr) (n c : Nat) (S : Nat → SP) (A2 : Option Addr) (m c2 : Nat) (T : Nat → Nat → Int) (A3 : Option Addr) (d c3 : Nat) (L : Nat → Int) (A4 : Option Addr) (q c4 : Nat) (f : Nat → SD) (w : World) (hS : SlSP w A n S) (hS2 : SlT w A2 m T) (hS3 : SlI w A3 d L) (hS4 : SlSD w A4 q f) (hm : n ≤ 9223372036854775807) (hm2 : m ≤ 9223372036854775807) (hm3 : d ≤ 9223372036854775807) (hm9 : q ≤ 9223372036854775807) :
    Calls Try.prog 13 #[.slice A n c, .slice A2 m c2, .slice A3 d c3, .slice A4 q c4] w fun e w' => e = .returned (.bool true) ∧ Below w.heap.size w w' := by
  have HS := Lib.hid hS
  have HS2 := Lib.hid hS2
  have HS3 := Lib.hid hS3
  have HS4 := Lib.hid hS4
  clear hS hS2 hS3 hS4
  by_cases hd : d ≤ 1048576
  rotate_left
  · have hd2 : 1048576 < d := by omega
    go_enter Try.func13, Try.ntmps13
    go_wp2
    go_ret
    exact ⟨rfl, by repeat' (first | (with_reducible exact Below.refl _ _) | (with_reducible assumption) | (with_reducible refine Below.alloc ?_ ?_ _) | (with_reducible refine Below.drew ?_) | (with_reducible refine Below.setCell ?_ ?_ _) | (with_reducible refine Below.stepB (by assumption) ?_ ?_) | go_size)⟩
  by_cases hn : n ≤ 1048576
  rotate_left
  · go_enter Try.func13, Try.ntmps13
    go_wp2_with (go_at_call 45; refine (szSpotS_no A n c _ (by omega) hm).mono ?_; rintro e w' ⟨rfl, rfl⟩)
    go_ret
    exact ⟨rfl, by repeat' (first | (with_reducible exact Below.refl _ _) | (with_reducible assumption) | (with_reducible refine Below.alloc ?_ ?_ _) | (with_reducible refine Below.drew ?_) | (with_reducible refine Below.setCell ?_ ?_ _) | (with_reducible refine Below.stepB (by assumption) ?_ ?_) | go_size)⟩
  by_cases hnm : n + m ≤ 1048576
  rotate_left
  · go_enter Try.func13, Try.ntmps13
    go_wp2_with (first | (go_at_call 45; refine (szSpotS_yes A n c _ hn).mono ?_; rintro e w' ⟨rfl, rfl⟩) | (go_at_call 46; refine (szIntA3S_no A2 m c2 _ _ (by omega) (by omega) hm2).mono ?_; rintro e w' ⟨rfl, rfl⟩))
    go_ret
    exact ⟨rfl, by repeat' (first | (with_reducible exact Below.refl _ _) | (with_reducible assumption) | (with_reducible refine Below.alloc ?_ ?_ _) | (with_reducible refine Below.drew ?_) | (with_reducible refine Below.setCell ?_ ?_ _) | (with_reducible refine Below.stepB (by assumption) ?_ ?_) | go_size)⟩
  have hm1 : m ≤ 1048576 := by omega
  have hm4 : (m : Int) ≤ 1048576 - n := by omega
  have hm5 : (1048576 : Int) - n ≤ 1048576 := by omega
  by_cases hnq : n + m + q ≤ 1048576
  rotate_left
  · go_enter Try.func13, Try.ntmps13
    go_wp2_with (first | (go_at_call 45; refine (szSpotS_yes A n c _ hn).mono ?_; rintro e w' ⟨rfl, rfl⟩) | (go_at_call 46; refine (szIntA3S_yes A2 m c2 _ _ hm4 hm5).mono ?_; rintro e w' ⟨rfl, rfl⟩) | (go_at_call 60; refine (szSoundG_no A4 q c4 _ _ (by omega) (by omega) hm9).mono ?_; rintro e w' ⟨rfl, rfl⟩))
    go_ret
    exact ⟨rfl, by repeat' (first | (with_reducible exact Below.refl _ _) | (with_reducible assumption) | (with_reducible refine Below.alloc ?_ ?_ _) | (with_reducible refine Below.drew ?_) | (with_reducible refine Below.setCell ?_ ?_ _) | (with_reducible refine Below.stepB (by assumption) ?_ ?_) | go_size)⟩
  have hq : q ≤ 1048576 := by omega
  have hq4 : (q : Int) ≤ 1048576 - n - m := by omega
  have hq5 : (1048576 : Int) - n - m ≤ 1048576 := by omega
  have hR := Lib.hid (Nat.le_trans (tdO_len S n T m L d f q) hq)
  go_enter Try.func13, Try.ntmps13
  go_wp2_with (first | (go_at_call 45; refine (szSpotS_yes A n c _ hn).mono ?_; rintro e w' ⟨rfl, rfl⟩) | (go_at_call 46; refine (szIntA3S_yes A2 m c2 _ _ hm4 hm5).mono ?_; rintro e w' ⟨rfl, rfl⟩) | (go_at_call 60; refine (szSoundG_yes A4 q c4 _ _ hq4 hq5).mono ?_; rintro e w' ⟨rfl, rfl⟩))
  go_wp2_with fail
  refine (toSpotS_ex A n c S _ (HS.out.below (by repeat' (first | (with_reducible exact Below.refl _ _) | (with_reducible assumption) | (with_reducible refine Below.alloc ?_ ?_ _) | (with_reducible refine Below.drew ?_) | (with_reducible refine Below.setCell ?_ ?_ _) | (with_reducible refine Below.stepB (by assumption) ?_ ?_) | go_size))) hn).mono ?_
  rintro e w1 ⟨bw1, rfl, hOw1, hbw1⟩
  obtain ⟨hzw1, hcw1, hfw1⟩ := bfacts hbw1; (try simp at hzw1 hcw1 hfw1); (try (have : w.heap.size < w1.heap.size := by omega)); (try (have : w.heap.size + 1 < w1.heap.size := by omega)); (try (have : w.heap.size + 1 + 1 < w1.heap.size := by omega)); (try (have : w.heap.size + 1 + 1 + 1 < w1.heap.size := by omega))
  go_wp2_with fail
  refine (toIntA3S_ex A2 m c2 T _ (HS2.out.below (by repeat' (first | (with_reducible exact Below.refl _ _) | (with_reducible assumption) | (with_reducible refine Below.alloc ?_ ?_ _) | (with_reducible refine Below.drew ?_) | (with_reducible refine Below.setCell ?_ ?_ _) | (with_reducible refine Below.stepB (by assumption) ?_ ?_) | go_size))) hm1).mono ?_
  rintro e w2 ⟨bw2, rfl, hOw2, hbw2⟩
  obtain ⟨hzw2, hcw2, hfw2⟩ := bfacts hbw2; (try simp at hzw2 hcw2 hfw2); (try (have : w.heap.size < w2.heap.size := by omega)); (try (have : w.heap.size + 1 < w2.heap.size := by omega)); (try (have : w.heap.size + 1 + 1 < w2.heap.size := by omega)); (try (have : w.heap.size + 1 + 1 + 1 < w2.heap.size := by omega))
  go_wp2_with fail
  refine (toIntS_ex A3 d c3 L _ (HS3.out.below (by repeat' (first | (with_reducible exact Below.refl _ _) | (with_reducible assumption) | (with_reducible refine Below.alloc ?_ ?_ _) | (with_reducible refine Below.drew ?_) | (with_reducible refine Below.setCell ?_ ?_ _) | (with_reducible refine Below.stepB (by assumption) ?_ ?_) | go_size))) hd).mono ?_
  rintro e w3 ⟨bw3, rfl, hOw3, hbw3⟩
  obtain ⟨hzw3, hcw3, hfw3⟩ := bfacts hbw3; (try simp at hzw3 hcw3 hfw3); (try (have : w.heap.size < w3.heap.size := by omega)); (try (have : w.heap.size + 1 < w3.heap.size := by omega)); (try (have : w.heap.size + 1 + 1 < w3.heap.size := by omega)); (try (have : w.heap.size + 1 + 1 + 1 < w3.heap.size := by omega))
  go_wp2_with fail
  refine (toSoundingS_ex A4 q c4 f _ (HS4.out.below (by repeat' (first | (with_reducible exact Below.refl _ _) | (with_reducible assumption) | (with_reducible refine Below.alloc ?_ ?_ _) | (with_reducible refine Below.drew ?_) | (with_reducible refine Below.setCell ?_ ?_ _) | (with_reducible refine Below.stepB (by assumption) ?_ ?_) | go_size))) hq).mono ?_
  rintro e w4 ⟨bw4, rfl, hOw4, hbw4⟩
  obtain ⟨hzw4, hcw4, hfw4⟩ := bfacts hbw4; (try simp at hzw4 hcw4 hfw4); (try (have : w.heap.size < w4.heap.size := by omega)); (try (have : w.heap.size + 1 < w4.heap.size := by omega)); (try (have : w.heap.size + 1 + 1 < w4.heap.size := by omega)); (try (have : w.heap.size + 1 + 1 + 1 < w4.heap.size := by omega))
  go_wp2_with fail
  refine (specTooDeep_any _ n n S _ m m T _ d d L _ q q f _ (hOw1.below (by repeat' (first | (with_reducible exact Below.refl _ _) | (with_reducible assumption) | (with_reducible refine Below.alloc ?_ ?_ _) | (with_reducible refine Below.drew ?_) | (with_reducible refine Below.setCell ?_ ?_ _) | (with_reducible refine Below.stepB (by assumption) ?_ ?_) | go_size))).sl (hOw2.below (by repeat' (first | (with_reducible exact Below.refl _ _) | (with_reducible assumption) | (with_reducible refine Below.alloc ?_ ?_ _) | (with_reducible refine Below.drew ?_) | (with_reducible refine Below.setCell ?_ ?_ _) | (with_reducible refine Below.stepB (by assumption) ?_ ?_) | go_size))).sl (hOw3.below (by repeat' (first | (with_reducible exact Below.refl _ _) | (with_reducible assumption) | (with_reducible refine Below.alloc ?_ ?_ _) | (with_reducible refine Below.drew ?_) | (with_reducible refine Below.setCell ?_ ?_ _) | (with_reducible refine Below.stepB (by assumption) ?_ ?_) | go_size))).sl hOw4.sl hn hm1 hd hq).mono ?_
  rintro e w5 ⟨Aw, cw, rfl, OW, hbw5⟩
  obtain ⟨hzw5, hcw5, hfw5⟩ := bfacts hbw5; (try simp at hzw5 hcw5 hfw5); (try (have : w.heap.size < w5.heap.size := by omega)); (try (have : w.heap.size + 1 < w5.heap.size := by omega)); (try (have : w.heap.size + 1 + 1 < w5.heap.size := by omega)); (try (have : w.heap.size + 1 + 1 + 1 < w5.heap.size := by omega))
  go_wp2_with fail
  refine (toSpotS_ex A n c S _ (HS.out.below (by repeat' (first | (with_reducible exact Below.refl _ _) | (with_reducible assumption) | (with_reducible refine Below.alloc ?_ ?_ _) | (with_reducible refine Below.drew ?_) | (with_reducible refine Below.setCell ?_ ?_ _) | (with_reducible refine Below.stepB (by assumption) ?_ ?_) | go_size))) hn).mono ?_
  rintro e w6 ⟨bw6, rfl, hOw6, hbw6⟩
  obtain ⟨hzw6, hcw6, hfw6⟩ := bfacts hbw6; (try simp at hzw6 hcw6 hfw6); (try (have : w.heap.size < w6.heap.size := by omega)); (try (have : w.heap.size + 1 < w6.heap.size := by omega)); (try (have : w.heap.size + 1 + 1 < w6.heap.size := by omega)); (try (have : w.heap.size + 1 + 1 + 1 < w6.heap.size := by omega))
  go_wp2_with fail
  refine (toIntA3S_ex A2 m c2 T _ (HS2.out.below (by repeat' (first | (with_reducible exact Below.refl _ _) | (with_reducible assumption) | (with_reducible refine Below.alloc ?_ ?_ _) | (with_reducible refine Below.drew ?_) | (with_reducible refine Below.setCell ?_ ?_ _) | (with_reducible refine Below.stepB (by assumption) ?_ ?_) | go_size))) hm1).mono ?_
  rintro e w7 ⟨bw7, rfl, hOw7, hbw7⟩
  obtain ⟨hzw7, hcw7, hfw7⟩ := bfacts hbw7; (try simp at hzw7 hcw7 hfw7); (try (have : w.heap.size < w7.heap.size := by omega)); (try (have : w.heap.size + 1 < w7.heap.size := by omega)); (try (have : w.heap.size + 1 + 1 < w7.heap.size := by omega)); (try (have : w.heap.size + 1 + 1 + 1 < w7.heap.size := by omega))
  go_wp2_with fail
  refine (toIntS_ex A3 d c3 L _ (HS3.out.below (by repeat' (first | (with_reducible exact Below.refl _ _) | (with_reducible assumption) | (with_reducible refine Below.alloc ?_ ?_ _) | (with_reducible refine Below.drew ?_) | (with_reducible refine Below.setCell ?_ ?_ _) | (with_reducible refine Below.stepB (by assumption) ?_ ?_) | go_size))) hd).mono ?_
  rintro e w8 ⟨bw8, rfl, hOw8, hbw8⟩
  obtain ⟨hzw8, hcw8, hfw8⟩ := bfacts hbw8; (try simp at hzw8 hcw8 hfw8); (try (have : w.heap.size < w8.heap.size := by omega)); (try (have : w.heap.size + 1 < w8.heap.size := by omega)); (try (have : w.heap.size + 1 + 1 < w8.heap.size := by omega)); (try (have : w.heap.size + 1 + 1 + 1 < w8.heap.size := by omega))
  go_wp2_with fail
  refine (toSoundingS_ex A4 q c4 f _ (HS4.out.below (by repeat' (first | (with_reducible exact Below.refl _ _) | (with_reducible assumption) | (with_reducible refine Below.alloc ?_ ?_ _) | (with_reducible refine Below.drew ?_) | (with_reducible refine Below.setCell ?_ ?_ _) | (with_reducible refine Below.stepB (by assumption) ?_ ?_) | go_size))) hq).mono ?_
  rintro e w9 ⟨bw9, rfl, hOw9, hbw9⟩
  obtain ⟨hzw9, hcw9, hfw9⟩ := bfacts hbw9; (try simp at hzw9 hcw9 hfw9); (try (have : w.heap.size < w9.heap.size := by omega)); (try (have : w.heap.size + 1 < w9.heap.size := by omega)); (try (have : w.heap.size + 1 + 1 < w9.heap.size := by omega)); (try (have : w.heap.size + 1 + 1 + 1 < w9.heap.size := by omega))
  go_wp2_with fail
  refine (Deep_at _ n S _ m T _ d d L _ q q f _ (hOw6.below (by repeat' (first | (with_reducible exact Below.refl _ _) | (with_reducible assumption) | (with_reducible refine Below.alloc ?_ ?_ _) | (with_reducible refine Below.drew ?_) | (with_reducible refine Below.setCell ?_ ?_ _) | (with_reducible refine Below.stepB (by assumption) ?_ ?_) | go_size))).sl (hOw7.below (by repeat' (first | (with_reducible exact Below.refl _ _) | (with_reducible assumption) | (with_reducible refine Below.alloc ?_ ?_ _) | (with_reducible refine Below.drew ?_) | (with_reducible refine Below.setCell ?_ ?_ _) | (with_reducible refine Below.stepB (by assumption) ?_ ?_) | go_size))).sl (hOw8.below (by repeat' (first | (with_reducible exact Below.refl _ _) | (with_reducible assumption) | (with_reducible refine Below.alloc ?_ ?_ _) | (with_reducible refine Below.drew ?_) | (with_reducible refine Below.setCell ?_ ?_ _) | (with_reducible refine Below.stepB (by assumption) ?_ ?_) | go_size))).sl hOw9.sl hn hm1 hd hq).mono ?_
  rintro e w10 ⟨Ag, cg, rfl, OG, hbw10⟩
  obtain ⟨hzw10, hcw10, hfw10⟩ := bfacts hbw10; (try simp at hzw10 hcw10 hfw10); (try (have : w.heap.size < w10.heap.size := by omega)); (try (have : w.heap.size + 1 < w10.heap.size := by omega)); (try (have : w.heap.size + 1 + 1 < w10.heap.size := by omega)); (try (have : w.heap.size + 1 + 1 + 1 < w10.heap.size := by omega))
  have hOG := Lib.hid (OG)
  have hWr := OW.range
  have hXr := hOw6.range
  have hYr := hOw7.range
  have hZr := hOw8.range
  have hUr := hOw9.range
  have hGr := OG.range
  go_wp2_with fail
  refine (eqIntS_same _ _ _ _ _ _ _ OG.sl (OW.below (by repeat' (first | (with_reducible exact Below.refl _ _) | (with_reducible assumption) | (with_reducible refine Below.alloc ?_ ?_ _) | (with_reducible refine Below.drew ?_) | (with_reducible refine Below.setCell ?_ ?_ _) | (with_reducible refine Below.stepB (by assumption) ?_ ?_) | go_size))).sl hR.out).mono ?_
  rintro e w10b ⟨rfl, hbw10b⟩
  obtain ⟨hzw10b, hcw10b, hfw10b⟩ := bfacts hbw10b; (try simp at hzw10b hcw10b hfw10b); (try (have : w.heap.size < w10b.heap.size := by omega)); (try (have : w.heap.size + 1 < w10b.heap.size := by omega)); (try (have : w.heap.size + 1 + 1 < w10b.heap.size := by omega)); (try (have : w.heap.size + 1 + 1 + 1 < w10b.heap.size := by omega))
  go_wp2_with fail
  refine (toSpotS_ex A n c S _ (HS.out.below (by repeat' (first | (with_reducible exact Below.refl _ _) | (with_reducible assumption) | (with_reducible refine Below.alloc ?_ ?_ _) | (with_reducible refine Below.drew ?_) | (with_reducible refine Below.setCell ?_ ?_ _) | (with_reducible refine Below.stepB (by assumption) ?_ ?_) | go_size))) hn).mono ?_
  rintro e w11 ⟨b11, rfl, hO11, hbw11⟩
  obtain ⟨hzw11, hcw11, hfw11⟩ := bfacts hbw11; (try simp at hzw11 hcw11 hfw11); (try (have : w.heap.size < w11.heap.size := by omega)); (try (have : w.heap.size + 1 < w11.heap.size := by omega)); (try (have : w.heap.size + 1 + 1 < w11.heap.size := by omega)); (try (have : w.heap.size + 1 + 1 + 1 < w11.heap.size := by omega))
  go_wp2_with fail
  refine (eqSpotS_same _ _ n n n S _ (hOw6.below (by repeat' (first | (with_reducible exact Below.refl _ _) | (with_reducible assumption) | (with_reducible refine Below.alloc ?_ ?_ _) | (with_reducible refine Below.drew ?_) | (with_reducible refine Below.setCell ?_ ?_ _) | (with_reducible refine Below.stepB (by assumption) ?_ ?_) | go_size))).sl hO11.sl hn).mono ?_
  rintro e w12 ⟨rfl, hbw12⟩
  obtain ⟨hzw12, hcw12, hfw12⟩ := bfacts hbw12; (try simp at hzw12 hcw12 hfw12); (try (have : w.heap.size < w12.heap.size := by omega)); (try (have : w.heap.size + 1 < w12.heap.size := by omega)); (try (have : w.heap.size + 1 + 1 < w12.heap.size := by omega)); (try (have : w.heap.size + 1 + 1 + 1 < w12.heap.size := by omega))
  go_wp2_with fail
  refine (toIntA3S_ex A2 m c2 T _ (HS2.out.below (by repeat' (first | (with_reducible exact Below.refl _ _) | (with_reducible assumption) | (with_reducible refine Below.alloc ?_ ?_ _) | (with_reducible refine Below.drew ?_) | (with_reducible refine Below.setCell ?_ ?_ _) | (with_reducible refine Below.stepB (by assumption) ?_ ?_) | go_size))) hm1).mono ?_
  rintro e w13 ⟨b13, rfl, hO13, hbw13⟩
  obtain ⟨hzw13, hcw13, hfw13⟩ := bfacts hbw13; (try simp at hzw13 hcw13 hfw13); (try (have : w.heap.size < w13.heap.size := by omega)); (try (have : w.heap.size + 1 < w13.heap.size := by omega)); (try (have : w.heap.size + 1 + 1 < w13.heap.size := by omega)); (try (have : w.heap.size + 1 + 1 + 1 < w13.heap.size := by omega))
  go_wp2_with fail
  refine (eqIntA3S_same _ _ m m m T _ (hOw7.below (by repeat' (first | (with_reducible exact Below.refl _ _) | (with_reducible assumption) | (with_reducible refine Below.alloc ?_ ?_ _) | (with_reducible refine Below.drew ?_) | (with_reducible refine Below.setCell ?_ ?_ _) | (with_reducible refine Below.stepB (by assumption) ?_ ?_) | go_size))).sl hO13.sl hm1).mono ?_
  rintro e w14 ⟨rfl, hbw14⟩
  obtain ⟨hzw14, hcw14, hfw14⟩ := bfacts hbw14; (try simp at hzw14 hcw14 hfw14); (try (have : w.heap.size < w14.heap.size := by omega)); (try (have : w.heap.size + 1 < w14.heap.size := by omega)); (try (have : w.heap.size + 1 + 1 < w14.heap.size := by omega)); (try (have : w.heap.size + 1 + 1 + 1 < w14.heap.size := by omega))
  go_wp2_with fail
  refine (toIntS_ex A3 d c3 L _ (HS3.out.below (by repeat' (first | (with_reducible exact Below.refl _ _) | (with_reducible assumption) | (with_reducible refine Below.alloc ?_ ?_ _) | (with_reducible refine Below.drew ?_) | (with_reducible refine Below.setCell ?_ ?_ _) | (with_reducible refine Below.stepB (by assumption) ?_ ?_) | go_size))) hd).mono ?_
  rintro e w15 ⟨b15, rfl, hO15, hbw15⟩
  obtain ⟨hzw15, hcw15, hfw15⟩ := bfacts hbw15; (try simp at hzw15 hcw15 hfw15); (try (have : w.heap.size < w15.heap.size := by omega)); (try (have : w.heap.size + 1 < w15.heap.size := by omega)); (try (have : w.heap.size + 1 + 1 < w15.heap.size := by omega)); (try (have : w.heap.size + 1 + 1 + 1 < w15.heap.size := by omega))
  go_wp2_with fail
  refine (eqIntS_same _ _ d d d L _ (hOw8.below (by repeat' (first | (with_reducible exact Below.refl _ _) | (with_reducible assumption) | (with_reducible refine Below.alloc ?_ ?_ _) | (with_reducible refine Below.drew ?_) | (with_reducible refine Below.setCell ?_ ?_ _) | (with_reducible refine Below.stepB (by assumption) ?_ ?_) | go_size))).sl hO15.sl hd).mono ?_
  rintro e w16 ⟨rfl, hbw16⟩
  obtain ⟨hzw16, hcw16, hfw16⟩ := bfacts hbw16; (try simp at hzw16 hcw16 hfw16); (try (have : w.heap.size < w16.heap.size := by omega)); (try (have : w.heap.size + 1 < w16.heap.size := by omega)); (try (have : w.heap.size + 1 + 1 < w16.heap.size := by omega)); (try (have : w.heap.size + 1 + 1 + 1 < w16.heap.size := by omega))
  go_wp2_with fail
  refine (toSoundingS_ex A4 q c4 f _ (HS4.out.below (by repeat' (first | (with_reducible exact Below.refl _ _) | (with_reducible assumption) | (with_reducible refine Below.alloc ?_ ?_ _) | (with_reducible refine Below.drew ?_) | (with_reducible refine Below.setCell ?_ ?_ _) | (with_reducible refine Below.stepB (by assumption) ?_ ?_) | go_size))) hq).mono ?_
  rintro e w17 ⟨b17, rfl, hO17, hbw17⟩
  obtain ⟨hzw17, hcw17, hfw17⟩ := bfacts hbw17; (try simp at hzw17 hcw17 hfw17); (try (have : w.heap.size < w17.heap.size := by omega)); (try (have : w.heap.size + 1 < w17.heap.size := by omega)); (try (have : w.heap.size + 1 + 1 < w17.heap.size := by omega)); (try (have : w.heap.size + 1 + 1 + 1 < w17.heap.size := by omega))
  go_wp2_with fail
  refine (eqSoundingS_same _ _ q q q f _ (hOw9.below (by repeat' (first | (with_reducible exact Below.refl _ _) | (with_reducible assumption) | (with_reducible refine Below.alloc ?_ ?_ _) | (with_reducible refine Below.drew ?_) | (with_reducible refine Below.setCell ?_ ?_ _) | (with_reducible refine Below.stepB (by assumption) ?_ ?_) | go_size))).sl hO17.sl hq).mono ?_
  rintro e w18 ⟨rfl, hbw18⟩
  obtain ⟨hzw18, hcw18, hfw18⟩ := bfacts hbw18; (try simp at hzw18 hcw18 hfw18); (try (have : w.heap.size < w18.heap.size := by omega)); (try (have : w.heap.size + 1 < w18.heap.size := by omega)); (try (have : w.heap.size + 1 + 1 < w18.heap.size := by omega)); (try (have : w.heap.size + 1 + 1 + 1 < w18.heap.size := by omega))
  have OW11 := OW.below (w' := w18) (by repeat' (first | (with_reducible exact Below.refl _ _) | (with_reducible assumption) | (with_reducible refine Below.alloc ?_ ?_ _) | (with_reducible refine Below.drew ?_) | (with_reducible refine Below.setCell ?_ ?_ _) | (with_reducible refine Below.stepB (by assumption) ?_ ?_) | go_size))
  have OG11 := hOG.out.below (w' := w18) (by repeat' (first | (with_reducible exact Below.refl _ _) | (with_reducible assumption) | (with_reducible refine Below.alloc ?_ ?_ _) | (with_reducible refine Below.drew ?_) | (with_reducible refine Below.setCell ?_ ?_ _) | (with_reducible refine Below.stepB (by assumption) ?_ ?_) | go_size))
  have OY11 := hOw7.below (w' := w18) (by repeat' (first | (with_reducible exact Below.refl _ _) | (with_reducible assumption) | (with_reducible refine Below.alloc ?_ ?_ _) | (with_reducible refine Below.drew ?_) | (with_reducible refine Below.setCell ?_ ?_ _) | (with_reducible refine Below.stepB (by assumption) ?_ ?_) | go_size))
  have OZ11 := hOw8.below (w' := w18) (by repeat' (first | (with_reducible exact Below.refl _ _) | (with_reducible assumption) | (with_reducible refine Below.alloc ?_ ?_ _) | (with_reducible refine Below.drew ?_) | (with_reducible refine Below.setCell ?_ ?_ _) | (with_reducible refine Below.stepB (by assumption) ?_ ?_) | go_size))
  have OU11 := hOw9.below (w' := w18) (by repeat' (first | (with_reducible exact Below.refl _ _) | (with_reducible assumption) | (with_reducible refine Below.alloc ?_ ?_ _) | (with_reducible refine Below.drew ?_) | (with_reducible refine Below.setCell ?_ ?_ _) | (with_reducible refine Below.stepB (by assumption) ?_ ?_) | go_size))
  go_wp2_with fail
  refine (markSpotS_any _ n n _ _ _ (hOw6.below (by repeat' (first | (with_reducible exact Below.refl _ _) | (with_reducible assumption) | (with_reducible refine Below.alloc ?_ ?_ _) | (with_reducible refine Below.drew ?_) | (with_reducible refine Below.setCell ?_ ?_ _) | (with_reducible refine Below.stepB (by assumption) ?_ ?_) | go_size))) hn 1 (by decide) (by decide)).mono ?_
  rintro e w19 ⟨rfl, hO19, hkw19⟩
  have hbw19 := hkw19.below hXr (Nat.le_refl _) (by omega)
  have hzw19 := hbw19.size
  have OW12 := OW11.kept hkw19 hWr hXr (.inl (by omega))
  have OG12 := OG11.kept hkw19 hGr hXr (.inr (by omega))
  have OY12 := OY11.kept hkw19 hYr hXr (.inr (by omega))
  have OZ12 := OZ11.kept hkw19 hZr hXr (.inr (by omega))
  have OU12 := OU11.kept hkw19 hUr hXr (.inr (by omega))
  clear OW11 OG11 OY11 OZ11 OU11 hO19
  go_wp2_with fail
  refine (markIntA3S_any _ m m _ _ _ OY12 hm1 _ (by omega) (by omega)).mono ?_
  rintro e w20 ⟨rfl, hO20, hkw20⟩
  have hbw20 := hkw20.below hYr (Nat.le_refl _) (by omega)
  have hzw20 := hbw20.size
  have OW13 := OW12.kept hkw20 hWr hYr (.inl (by omega))
  have OG13 := OG12.kept hkw20 hGr hYr (.inr (by omega))
  have OZ13 := OZ12.kept hkw20 hZr hYr (.inr (by omega))
  have OU13 := OU12.kept hkw20 hUr hYr (.inr (by omega))
  clear OW12 OG12 OY12 OZ12 OU12 hO20
  go_wp2_with fail
  refine (markIntS_any _ d d _ _ _ OZ13 hd _ (by omega) (by omega)).mono ?_
  rintro e w21 ⟨rfl, hO21, hkw21⟩
  have hbw21 := hkw21.below hZr (Nat.le_refl _) (by omega)
  have hzw21 := hbw21.size
  have OW14 := OW13.kept hkw21 hWr hZr (.inl (by omega))
  have OG14 := OG13.kept hkw21 hGr hZr (.inr (by omega))
  have OU14 := OU13.kept hkw21 hUr hZr (.inr (by omega))
  clear OW13 OG13 OZ13 OU13 hO21
  go_wp2_with fail
  refine (markSoundingS_any _ q q _ _ _ OU14 hq _ (by omega) (by omega)).mono ?_
  rintro e w22 ⟨rfl, hO22, hkw22⟩
  have hbw22 := hkw22.below hUr (Nat.le_refl _) (by omega)
  have hzw22 := hbw22.size
  have OW15 := OW14.kept hkw22 hWr hUr (.inl (by omega))
  have OG15 := OG14.kept hkw22 hGr hUr (.inr (by omega))
  clear OW14 OG14 OU14 hO22
  go_wp2_with fail
  refine (eqIntS_same _ _ _ _ _ _ _ OG15.sl OW15.sl hR.out).mono ?_
  rintro e w23 ⟨rfl, hbw23⟩
  obtain ⟨hzw23, hcw23, hfw23⟩ := bfacts hbw23; (try simp at hzw23 hcw23 hfw23); (try (have : w.heap.size < w23.heap.size := by omega)); (try (have : w.heap.size + 1 < w23.heap.size := by omega)); (try (have : w.heap.size + 1 + 1 < w23.heap.size := by omega)); (try (have : w.heap.size + 1 + 1 + 1 < w23.heap.size := by omega))
  have OW16 := OW15.below hbw23
  go_wp2_with fail
  refine (markIntS_any _ _ _ _ _ _ (OG15.below hbw23) hR.out 1 (by decide) (by decide)).mono ?_
  rintro e w24 ⟨rfl, OG16, hkw24⟩
  have hbw24 := hkw24.below hGr (Nat.le_refl _) (by omega)
  have hzw24 := hbw24.size
  have OW17 := OW16.kept hkw24 hWr hGr (.inl (by omega))
  clear OW15 OG15 OW16
  go_wp2_with fail
  refine (heldIntS_any _ _ _ _ 1 OG16.sl hR.out (by decide) (by decide)).mono ?_
  rintro e w25 ⟨rfl, hbw25⟩
  obtain ⟨hzw25, hcw25, hfw25⟩ := bfacts hbw25; (try simp at hzw25 hcw25 hfw25); (try (have : w.heap.size < w25.heap.size := by omega)); (try (have : w.heap.size + 1 < w25.heap.size := by omega)); (try (have : w.heap.size + 1 + 1 < w25.heap.size := by omega)); (try (have : w.heap.size + 1 + 1 + 1 < w25.heap.size := by omega))
  go_wp2_with fail
  refine (toSpotS_ex A n c S _ (HS.out.below (by repeat' (first | (with_reducible exact Below.refl _ _) | (with_reducible assumption) | (with_reducible refine Below.alloc ?_ ?_ _) | (with_reducible refine Below.drew ?_) | (with_reducible refine Below.setCell ?_ ?_ _) | (with_reducible refine Below.stepB (by assumption) ?_ ?_) | go_size))) hn).mono ?_
  rintro e w26 ⟨bw26, rfl, hOw26, hbw26⟩
  obtain ⟨hzw26, hcw26, hfw26⟩ := bfacts hbw26; (try simp at hzw26 hcw26 hfw26); (try (have : w.heap.size < w26.heap.size := by omega)); (try (have : w.heap.size + 1 < w26.heap.size := by omega)); (try (have : w.heap.size + 1 + 1 < w26.heap.size := by omega)); (try (have : w.heap.size + 1 + 1 + 1 < w26.heap.size := by omega))
  go_wp2_with fail
  refine (toIntA3S_ex A2 m c2 T _ (HS2.out.below (by repeat' (first | (with_reducible exact Below.refl _ _) | (with_reducible assumption) | (with_reducible refine Below.alloc ?_ ?_ _) | (with_reducible refine Below.drew ?_) | (with_reducible refine Below.setCell ?_ ?_ _) | (with_reducible refine Below.stepB (by assumption) ?_ ?_) | go_size))) hm1).mono ?_
  rintro e w27 ⟨bw27, rfl, hOw27, hbw27⟩
  obtain ⟨hzw27, hcw27, hfw27⟩ := bfacts hbw27; (try simp at hzw27 hcw27 hfw27); (try (have : w.heap.size < w27.heap.size := by omega)); (try (have : w.heap.size + 1 < w27.heap.size := by omega)); (try (have : w.heap.size + 1 + 1 < w27.heap.size := by omega)); (try (have : w.heap.size + 1 + 1 + 1 < w27.heap.size := by omega))
  go_wp2_with fail
  refine (toIntS_ex A3 d c3 L _ (HS3.out.below (by repeat' (first | (with_reducible exact Below.refl _ _) | (with_reducible assumption) | (with_reducible refine Below.alloc ?_ ?_ _) | (with_reducible refine Below.drew ?_) | (with_reducible refine Below.setCell ?_ ?_ _) | (with_reducible refine Below.stepB (by assumption) ?_ ?_) | go_size))) hd).mono ?_
  rintro e w28 ⟨bw28, rfl, hOw28, hbw28⟩
  obtain ⟨hzw28, hcw28, hfw28⟩ := bfacts hbw28; (try simp at hzw28 hcw28 hfw28); (try (have : w.heap.size < w28.heap.size := by omega)); (try (have : w.heap.size + 1 < w28.heap.size := by omega)); (try (have : w.heap.size + 1 + 1 < w28.heap.size := by omega)); (try (have : w.heap.size + 1 + 1 + 1 < w28.heap.size := by omega))
  go_wp2_with fail
  refine (toSoundingS_ex A4 q c4 f _ (HS4.out.below (by repeat' (first | (with_reducible exact Below.refl _ _) | (with_reducible assumption) | (with_reducible refine Below.alloc ?_ ?_ _) | (with_reducible refine Below.drew ?_) | (with_reducible refine Below.setCell ?_ ?_ _) | (with_reducible refine Below.stepB (by assumption) ?_ ?_) | go_size))) hq).mono ?_
  rintro e w29 ⟨bw29, rfl, hOw29, hbw29⟩
  obtain ⟨hzw29, hcw29, hfw29⟩ := bfacts hbw29; (try simp at hzw29 hcw29 hfw29); (try (have : w.heap.size < w29.heap.size := by omega)); (try (have : w.heap.size + 1 < w29.heap.size := by omega)); (try (have : w.heap.size + 1 + 1 < w29.heap.size := by omega)); (try (have : w.heap.size + 1 + 1 + 1 < w29.heap.size := by omega))
  go_wp2_with fail
  refine (Deep_at _ n S _ m T _ d d L _ q q f _ (hOw26.below (by repeat' (first | (with_reducible exact Below.refl _ _) | (with_reducible assumption) | (with_reducible refine Below.alloc ?_ ?_ _) | (with_reducible refine Below.drew ?_) | (with_reducible refine Below.setCell ?_ ?_ _) | (with_reducible refine Below.stepB (by assumption) ?_ ?_) | go_size))).sl (hOw27.below (by repeat' (first | (with_reducible exact Below.refl _ _) | (with_reducible assumption) | (with_reducible refine Below.alloc ?_ ?_ _) | (with_reducible refine Below.drew ?_) | (with_reducible refine Below.setCell ?_ ?_ _) | (with_reducible refine Below.stepB (by assumption) ?_ ?_) | go_size))).sl (hOw28.below (by repeat' (first | (with_reducible exact Below.refl _ _) | (with_reducible assumption) | (with_reducible refine Below.alloc ?_ ?_ _) | (with_reducible refine Below.drew ?_) | (with_reducible refine Below.setCell ?_ ?_ _) | (with_reducible refine Below.stepB (by assumption) ?_ ?_) | go_size))).sl hOw29.sl hn hm1 hd hq).mono ?_
  rintro e w30 ⟨Ah, ch, rfl, OH, hbw30⟩
  obtain ⟨hzw30, hcw30, hfw30⟩ := bfacts hbw30; (try simp at hzw30 hcw30 hfw30); (try (have : w.heap.size < w30.heap.size := by omega)); (try (have : w.heap.size + 1 < w30.heap.size := by omega)); (try (have : w.heap.size + 1 + 1 < w30.heap.size := by omega)); (try (have : w.heap.size + 1 + 1 + 1 < w30.heap.size := by omega))
  go_wp2_with fail
  refine (eqIntS_same _ _ _ _ _ _ _ OH.sl (OW17.below (by repeat' (first | (with_reducible exact Below.refl _ _) | (with_reducible assumption) | (with_reducible refine Below.alloc ?_ ?_ _) | (with_reducible refine Below.drew ?_) | (with_reducible refine Below.setCell ?_ ?_ _) | (with_reducible refine Below.stepB (by assumption) ?_ ?_) | go_size))).sl hR.out).mono ?_
  rintro e w31 ⟨rfl, hbw31⟩
  obtain ⟨hzw31, hcw31, hfw31⟩ := bfacts hbw31; (try simp at hzw31 hcw31 hfw31); (try (have : w.heap.size < w31.heap.size := by omega)); (try (have : w.heap.size + 1 < w31.heap.size := by omega)); (try (have : w.heap.size + 1 + 1 < w31.heap.size := by omega)); (try (have : w.heap.size + 1 + 1 + 1 < w31.heap.size := by omega))
  go_wp2_with fail
  refine (heldIntS_any _ _ _ _ 1 (OG16.below (by repeat' (first | (with_reducible exact Below.refl _ _) | (with_reducible assumption) | (with_reducible refine Below.alloc ?_ ?_ _) | (with_reducible refine Below.drew ?_) | (with_reducible refine Below.setCell ?_ ?_ _) | (with_reducible refine Below.stepB (by assumption) ?_ ?_) | go_size))).sl hR.out (by decide) (by decide)).mono ?_
  rintro e w32 ⟨rfl, hbw32⟩
  obtain ⟨hzw32, hcw32, hfw32⟩ := bfacts hbw32; (try simp at hzw32 hcw32 hfw32); (try (have : w.heap.size < w32.heap.size := by omega)); (try (have : w.heap.size + 1 < w32.heap.size := by omega)); (try (have : w.heap.size + 1 + 1 < w32.heap.size := by omega)); (try (have : w.heap.size + 1 + 1 + 1 < w32.heap.size := by omega))
  go_wp2
  go_ret
  exact ⟨rfl, by repeat' (first | (with_reducible exact Below.refl _ _) | (with_reducible assumption) | (with_reducible refine Below.alloc ?_ ?_ _) | (with_reducible refine Below.drew ?_) | (with_reducible refine Below.setCell ?_ ?_ _) | (with_reducible refine Below.stepB (by assumption) ?_ ?_) | go_size)⟩
end Go.Proofs.Ytfflbkmncnaffaa
