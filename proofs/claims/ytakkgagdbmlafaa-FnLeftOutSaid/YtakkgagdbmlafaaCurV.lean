/- Contracts: the drawn arguments of the laws on selections. -/
import Derived.Test.YtakkgagdbmlafaaCurU
namespace Go.Proofs.Ytakkgagdbmlafaa
open Go.RowKit
theorem own_slSD {w : World} {lo b' n : Nat} {f : Nat → SD} (h : Own w lo 5 (some ⟨b', 0, none⟩) n (fun i j => (f i).cell j)) : SlSD w (some ⟨b', 0, none⟩) n f := h.sl
theorem own_far {w : World} {lo b b' n : Nat} {f : Nat → SD} (h : Own w lo 5 (some ⟨b', 0, none⟩) n (fun i j => (f i).cell j)) (hb : b < lo) : 0 < n → b' ≠ b := fun hn => by
  obtain ⟨p, t, cs, hA, hl, _⟩ := h hn
  obtain rfl : b' = p := by simpa using hA
  omega
theorem DrawSelectShoals_any (n c : Nat) (A : Option Addr) (B : Nat → Int) (w : World) (hR : ∀ i, 0 ≤ B i ∧ B i ≤ 255) (hS : Sl w 1 A n (fun i _ => .int .u8 (B i))) (hn : n ≤ 65536) :
    Calls Try.prog 22 #[.slice A n c] w fun e w' => ∃ (m b' c' : Nat) (f : Nat → SD) (r : Int), e = .returned (.tuple #[.slice (some ⟨b', 0, none⟩) m c', .int .i64 r]) ∧ m ≤ 13 ∧ Own w' w.heap.size 5 (some ⟨b', 0, none⟩) m (fun i j => (f i).cell j) ∧ Below w.heap.size w w' := by
  have HR := Lib.hid hR
  have HS := Lib.hid hS
  clear hR hS
  go_enter Try.func22, Try.ntmps22
  go_wp2_with fail
  refine (soundings_any w.heap.size A n c 0 _ (curS_new (blk_newC w rfl) HR.out HS.out (by repeat' (first | (with_reducible exact Below.refl _ _) | (with_reducible assumption) | (with_reducible refine Below.alloc ?_ ?_ _) | (with_reducible refine Below.drew ?_) | (with_reducible refine Below.setCell ?_ ?_ _) | (with_reducible refine Below.stepB (by assumption) ?_ ?_) | go_size)) (Nat.le_refl _)) (by decide) (by omega)).mono ?_
  rintro e w1 ⟨m, b1, c1, f, rfl, hm, hO, hD⟩
  have HB1 := Lib.hid ((show Below w.heap.size w _ from by repeat' (first | (with_reducible exact Below.refl _ _) | (with_reducible assumption) | (with_reducible refine Below.alloc ?_ ?_ _) | (with_reducible refine Below.drew ?_) | (with_reducible refine Below.setCell ?_ ?_ _) | (with_reducible refine Below.stepB (by assumption) ?_ ?_) | go_size)).trans (hD.2.lowB (Nat.le_refl _) (by simp)))
  have HO1 := Lib.hid (hO.more (lo' := w.heap.size + 1) (by simp))
  have HC1 := Lib.hid hD.1
  have hz1 := hD.2.size
  (try simp at hz1)
  clear hO hD
  go_wp2_with fail
  refine (radius_any w.heap.size A n c 300 w1 HC1.out (by decide) (by omega)).mono ?_
  rintro e w2 ⟨r, rfl, hD⟩
  have HO2 := Lib.hid (Own.keptC HO1.out hD.2 (by omega))
  have HB2 := Lib.hid (HB1.out.trans (hD.2.lowB (Nat.le_refl _) (by omega)))
  have HC2 := Lib.hid hD.1
  have hz2 := hD.2.size
  clear hD
  go_wp2
  go_ret2
  exact ⟨m, b1, c1, f, r, rfl, hm, HO2.out.more (by omega), HB2.out⟩
theorem DrawIsSelection_any (n c : Nat) (A : Option Addr) (B : Nat → Int) (w : World) (hR : ∀ i, 0 ≤ B i ∧ B i ≤ 255) (hS : Sl w 1 A n (fun i _ => .int .u8 (B i))) (hn : n ≤ 65536) :
    Calls Try.prog 78 #[.slice A n c] w fun e w' => ∃ (m b' c' : Nat) (f : Nat → SD) (m2 : Nat) (a2 c2 : Nat) (L : Nat → Int), e = .returned (.tuple #[.slice (some ⟨b', 0, none⟩) m c', .slice (some ⟨a2, 0, none⟩) m2 c2]) ∧ m ≤ 13 ∧ m2 ≤ 1048576 ∧ m2 ≤ c2 ∧ Own w' w.heap.size 5 (some ⟨b', 0, none⟩) m (fun i j => (f i).cell j) ∧ OwnI w' w.heap.size (some ⟨a2, 0, none⟩) m2 L ∧ Below w.heap.size w w' := by
  have HR := Lib.hid hR
  have HS := Lib.hid hS
  clear hR hS
  go_enter Try.func78, Try.ntmps78
  go_wp2_with fail
  refine (soundings_any w.heap.size A n c 0 _ (curS_new (blk_newC w rfl) HR.out HS.out (by repeat' (first | (with_reducible exact Below.refl _ _) | (with_reducible assumption) | (with_reducible refine Below.alloc ?_ ?_ _) | (with_reducible refine Below.drew ?_) | (with_reducible refine Below.setCell ?_ ?_ _) | (with_reducible refine Below.stepB (by assumption) ?_ ?_) | go_size)) (Nat.le_refl _)) (by decide) (by omega)).mono ?_
  rintro e w1 ⟨m, b1, c1, f, rfl, hm, hO, hD⟩
  have HB1 := Lib.hid ((show Below w.heap.size w _ from by repeat' (first | (with_reducible exact Below.refl _ _) | (with_reducible assumption) | (with_reducible refine Below.alloc ?_ ?_ _) | (with_reducible refine Below.drew ?_) | (with_reducible refine Below.setCell ?_ ?_ _) | (with_reducible refine Below.stepB (by assumption) ?_ ?_) | go_size)).trans (hD.2.lowB (Nat.le_refl _) (by simp)))
  have HO1 := Lib.hid (hO.more (lo' := w.heap.size + 1) (by simp))
  have HC1 := Lib.hid hD.1
  have hz1 := hD.2.size
  (try simp at hz1)
  clear hO hD
  go_wp2_with fail
  refine (chosen_any w.heap.size A n c 300 b1 m c1 f 30 w1 HC1.out (by decide) (by omega) (own_slSD HO1.out) (own_far HO1.out (by omega)) hm).mono ?_
  rintro e w3 ⟨m2, a2, c2, L, rfl, hm2, hcap, hP, hD⟩
  have HO3 := Lib.hid (Own.keptC HO1.out hD.2 (by omega))
  have HP3 := Lib.hid hP
  have HB3 := Lib.hid (HB1.out.trans (hD.2.lowB (Nat.le_refl _) (by omega)))
  have hz3 := hD.2.size
  clear hD hP
  go_wp2
  go_ret2
  exact ⟨m, b1, c1, f, m2, a2, c2, L, rfl, hm, hm2, hcap, HO3.out.more (by omega), HP3.out.more (by omega), HB3.out⟩
theorem DrawIsSafe_any (n c : Nat) (A : Option Addr) (B : Nat → Int) (w : World) (hR : ∀ i, 0 ≤ B i ∧ B i ≤ 255) (hS : Sl w 1 A n (fun i _ => .int .u8 (B i))) (hn : n ≤ 65536) :
    Calls Try.prog 72 #[.slice A n c] w fun e w' => ∃ (m b' c' : Nat) (f : Nat → SD) (m2 : Nat) (a2 c2 : Nat) (L : Nat → Int) (r : Int), e = .returned (.tuple #[.slice (some ⟨b', 0, none⟩) m c', .slice (some ⟨a2, 0, none⟩) m2 c2, .int .i64 r]) ∧ m ≤ 13 ∧ m2 ≤ 1048576 ∧ m2 ≤ c2 ∧ Own w' w.heap.size 5 (some ⟨b', 0, none⟩) m (fun i j => (f i).cell j) ∧ OwnI w' w.heap.size (some ⟨a2, 0, none⟩) m2 L ∧ Below w.heap.size w w' := by
  have HR := Lib.hid hR
  have HS := Lib.hid hS
  clear hR hS
  go_enter Try.func72, Try.ntmps72
  go_wp2_with fail
  refine (soundings_any w.heap.size A n c 0 _ (curS_new (blk_newC w rfl) HR.out HS.out (by repeat' (first | (with_reducible exact Below.refl _ _) | (with_reducible assumption) | (with_reducible refine Below.alloc ?_ ?_ _) | (with_reducible refine Below.drew ?_) | (with_reducible refine Below.setCell ?_ ?_ _) | (with_reducible refine Below.stepB (by assumption) ?_ ?_) | go_size)) (Nat.le_refl _)) (by decide) (by omega)).mono ?_
  rintro e w1 ⟨m, b1, c1, f, rfl, hm, hO, hD⟩
  have HB1 := Lib.hid ((show Below w.heap.size w _ from by repeat' (first | (with_reducible exact Below.refl _ _) | (with_reducible assumption) | (with_reducible refine Below.alloc ?_ ?_ _) | (with_reducible refine Below.drew ?_) | (with_reducible refine Below.setCell ?_ ?_ _) | (with_reducible refine Below.stepB (by assumption) ?_ ?_) | go_size)).trans (hD.2.lowB (Nat.le_refl _) (by simp)))
  have HO1 := Lib.hid (hO.more (lo' := w.heap.size + 1) (by simp))
  have HC1 := Lib.hid hD.1
  have hz1 := hD.2.size
  (try simp at hz1)
  clear hO hD
  go_wp2_with fail
  refine (radius_any w.heap.size A n c 300 w1 HC1.out (by decide) (by omega)).mono ?_
  rintro e w2 ⟨r, rfl, hD⟩
  have HO2 := Lib.hid (Own.keptC HO1.out hD.2 (by omega))
  have HB2 := Lib.hid (HB1.out.trans (hD.2.lowB (Nat.le_refl _) (by omega)))
  have HC2 := Lib.hid hD.1
  have hz2 := hD.2.size
  clear hD
  go_wp2_with fail
  refine (chosen_any w.heap.size A n c 302 b1 m c1 f r w2 HC2.out (by decide) (by omega) (own_slSD HO2.out) (own_far HO2.out (by omega)) hm).mono ?_
  rintro e w3 ⟨m2, a2, c2, L, rfl, hm2, hcap, hP, hD⟩
  have HO3 := Lib.hid (Own.keptC HO2.out hD.2 (by omega))
  have HP3 := Lib.hid hP
  have HB3 := Lib.hid (HB2.out.trans (hD.2.lowB (Nat.le_refl _) (by omega)))
  have hz3 := hD.2.size
  clear hD hP
  go_wp2
  go_ret3
  exact ⟨m, b1, c1, f, m2, a2, c2, L, r, rfl, hm, hm2, hcap, HO3.out.more (by omega), HP3.out.more (by omega), HB3.out⟩
theorem DrawNotStoodFor_any (n c : Nat) (A : Option Addr) (B : Nat → Int) (w : World) (hR : ∀ i, 0 ≤ B i ∧ B i ≤ 255) (hS : Sl w 1 A n (fun i _ => .int .u8 (B i))) (hn : n ≤ 65536) :
    Calls Try.prog 30 #[.slice A n c] w fun e w' => ∃ (m b' c' : Nat) (f : Nat → SD) (m2 : Nat) (a2 c2 : Nat) (L : Nat → Int) (r : Int), e = .returned (.tuple #[.slice (some ⟨b', 0, none⟩) m c', .slice (some ⟨a2, 0, none⟩) m2 c2, .int .i64 r]) ∧ m ≤ 13 ∧ m2 ≤ 1048576 ∧ m2 ≤ c2 ∧ Own w' w.heap.size 5 (some ⟨b', 0, none⟩) m (fun i j => (f i).cell j) ∧ OwnI w' w.heap.size (some ⟨a2, 0, none⟩) m2 L ∧ Below w.heap.size w w' := by
  have HD := Lib.hid (DrawIsSafe_any n c A B w hR hS hn)
  clear hR hS
  go_enter Try.func30, Try.ntmps30
  go_wp2_with fail
  refine HD.out.mono ?_
  rintro e w1 ⟨m, b1, c1, f, m2, a2, c2, L, r, rfl, hm, hm2, hcap, hO, hP, hB⟩
  have HO1 := Lib.hid hO
  have HP1 := Lib.hid hP
  have HB1 := Lib.hid hB
  clear hO hP hB
  go_wp2
  go_ret3
  exact ⟨m, b1, c1, f, m2, a2, c2, L, r, rfl, hm, hm2, hcap, HO1.out, HP1.out, HB1.out⟩
theorem DrawIsThin_any (n c : Nat) (A : Option Addr) (B : Nat → Int) (w : World) (hR : ∀ i, 0 ≤ B i ∧ B i ≤ 255) (hS : Sl w 1 A n (fun i _ => .int .u8 (B i))) (hn : n ≤ 65536) :
    Calls Try.prog 34 #[.slice A n c] w fun e w' => ∃ (m b' c' : Nat) (f : Nat → SD) (m2 : Nat) (a2 c2 : Nat) (L : Nat → Int) (r : Int), e = .returned (.tuple #[.slice (some ⟨b', 0, none⟩) m c', .slice (some ⟨a2, 0, none⟩) m2 c2, .int .i64 r]) ∧ m ≤ 13 ∧ m2 ≤ 1048576 ∧ m2 ≤ c2 ∧ Own w' w.heap.size 5 (some ⟨b', 0, none⟩) m (fun i j => (f i).cell j) ∧ OwnI w' w.heap.size (some ⟨a2, 0, none⟩) m2 L ∧ Below w.heap.size w w' := by
  have HD := Lib.hid (DrawIsSafe_any n c A B w hR hS hn)
  clear hR hS
  go_enter Try.func34, Try.ntmps34
  go_wp2_with fail
  refine HD.out.mono ?_
  rintro e w1 ⟨m, b1, c1, f, m2, a2, c2, L, r, rfl, hm, hm2, hcap, hO, hP, hB⟩
  have HO1 := Lib.hid hO
  have HP1 := Lib.hid hP
  have HB1 := Lib.hid hB
  clear hO hP hB
  go_wp2
  go_ret3
  exact ⟨m, b1, c1, f, m2, a2, c2, L, r, rfl, hm, hm2, hcap, HO1.out, HP1.out, HB1.out⟩
theorem DrawCanLeaveOut_any (n c : Nat) (A : Option Addr) (B : Nat → Int) (w : World) (hR : ∀ i, 0 ≤ B i ∧ B i ≤ 255) (hS : Sl w 1 A n (fun i _ => .int .u8 (B i))) (hn : n ≤ 65536) :
    Calls Try.prog 45 #[.slice A n c] w fun e w' => ∃ (m b' c' : Nat) (f : Nat → SD) (m2 : Nat) (a2 c2 : Nat) (L : Nat → Int) (r : Int), e = .returned (.tuple #[.slice (some ⟨b', 0, none⟩) m c', .slice (some ⟨a2, 0, none⟩) m2 c2, .int .i64 r]) ∧ m ≤ 13 ∧ m2 ≤ 1048576 ∧ m2 ≤ c2 ∧ Own w' w.heap.size 5 (some ⟨b', 0, none⟩) m (fun i j => (f i).cell j) ∧ OwnI w' w.heap.size (some ⟨a2, 0, none⟩) m2 L ∧ Below w.heap.size w w' := by
  have HD := Lib.hid (DrawIsSafe_any n c A B w hR hS hn)
  clear hR hS
  go_enter Try.func45, Try.ntmps45
  go_wp2_with fail
  refine HD.out.mono ?_
  rintro e w1 ⟨m, b1, c1, f, m2, a2, c2, L, r, rfl, hm, hm2, hcap, hO, hP, hB⟩
  have HO1 := Lib.hid hO
  have HP1 := Lib.hid hP
  have HB1 := Lib.hid hB
  clear hO hP hB
  go_wp2
  go_ret3
  exact ⟨m, b1, c1, f, m2, a2, c2, L, r, rfl, hm, hm2, hcap, HO1.out, HP1.out, HB1.out⟩
theorem DrawLargestRadius_any (n c : Nat) (A : Option Addr) (B : Nat → Int) (w : World) (hR : ∀ i, 0 ≤ B i ∧ B i ≤ 255) (hS : Sl w 1 A n (fun i _ => .int .u8 (B i))) (hn : n ≤ 65536) :
    Calls Try.prog 47 #[.slice A n c] w fun e w' => ∃ (m b' c' : Nat) (f : Nat → SD) (m2 : Nat) (a2 c2 : Nat) (L : Nat → Int), e = .returned (.tuple #[.slice (some ⟨b', 0, none⟩) m c', .slice (some ⟨a2, 0, none⟩) m2 c2]) ∧ m ≤ 13 ∧ m2 ≤ 1048576 ∧ m2 ≤ c2 ∧ Own w' w.heap.size 5 (some ⟨b', 0, none⟩) m (fun i j => (f i).cell j) ∧ OwnI w' w.heap.size (some ⟨a2, 0, none⟩) m2 L ∧ Below w.heap.size w w' := by
  have HD := Lib.hid (DrawIsSelection_any n c A B w hR hS hn)
  clear hR hS
  go_enter Try.func47, Try.ntmps47
  go_wp2_with fail
  refine HD.out.mono ?_
  rintro e w1 ⟨m, b1, c1, f, m2, a2, c2, L, rfl, hm, hm2, hcap, hO, hP, hB⟩
  have HO1 := Lib.hid hO
  have HP1 := Lib.hid hP
  have HB1 := Lib.hid hB
  clear hO hP hB
  go_wp2
  go_ret2
  exact ⟨m, b1, c1, f, m2, a2, c2, L, rfl, hm, hm2, hcap, HO1.out, HP1.out, HB1.out⟩
theorem DrawDepthsShown_any (n c : Nat) (A : Option Addr) (B : Nat → Int) (w : World) (hR : ∀ i, 0 ≤ B i ∧ B i ≤ 255) (hS : Sl w 1 A n (fun i _ => .int .u8 (B i))) (hn : n ≤ 65536) :
    Calls Try.prog 48 #[.slice A n c] w fun e w' => ∃ (m b' c' : Nat) (f : Nat → SD) (m2 : Nat) (a2 c2 : Nat) (L : Nat → Int), e = .returned (.tuple #[.slice (some ⟨b', 0, none⟩) m c', .slice (some ⟨a2, 0, none⟩) m2 c2]) ∧ m ≤ 13 ∧ m2 ≤ 1048576 ∧ m2 ≤ c2 ∧ Own w' w.heap.size 5 (some ⟨b', 0, none⟩) m (fun i j => (f i).cell j) ∧ OwnI w' w.heap.size (some ⟨a2, 0, none⟩) m2 L ∧ Below w.heap.size w w' := by
  have HD := Lib.hid (DrawIsSelection_any n c A B w hR hS hn)
  clear hR hS
  go_enter Try.func48, Try.ntmps48
  go_wp2_with fail
  refine HD.out.mono ?_
  rintro e w1 ⟨m, b1, c1, f, m2, a2, c2, L, rfl, hm, hm2, hcap, hO, hP, hB⟩
  have HO1 := Lib.hid hO
  have HP1 := Lib.hid hP
  have HB1 := Lib.hid hB
  clear hO hP hB
  go_wp2
  go_ret2
  exact ⟨m, b1, c1, f, m2, a2, c2, L, rfl, hm, hm2, hcap, HO1.out, HP1.out, HB1.out⟩
end Go.Proofs.Ytakkgagdbmlafaa
