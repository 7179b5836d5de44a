/- Contracts: the depths shown: the program's and the reference's. -/
import Derived.Test.YtakkgagdbmlafaaSelE
namespace Go.Proofs.Ytakkgagdbmlafaa
open Go.RowKit
def shownL (f : Nat → SD) (n : Nat) (L : Nat → Int) (m : Nat) : List Int := pick (fun _ => true) (fun i => lowV (atId f n (L i))) m
def shownO (f : Nat → SD) (n : Nat) (L : Nat → Int) (m : Nat) : List Int := if selB f n L m = true then shownL f n L m else []
theorem shownO_len (f : Nat → SD) (n : Nat) (L : Nat → Int) (m : Nat) : (shownO f n L m).length ≤ m := by
  unfold shownO
  split
  · exact pick_len m
  · simp
theorem DepthsShown_any (A : Option Addr) (n c : Nat) (f : Nat → SD) (A2 : Option Addr) (n2 c2 : Nat) (L2 : Nat → Int) (w : World) (hS : SlSD w A n f) (hS2 : SlI w A2 n2 L2) (hn : n ≤ 1048576) (hn2 : n2 ≤ 1048576) :
    Calls Try.prog 39 #[.slice A n c, .slice A2 n2 c2] w fun e w' => IntsOut w (shownO f n L2 n2) (selB f n L2 n2) e w' := by
  have hg := Lib.hid (fun W (hb : Below w.heap.size w W) => IsSelection_any A n c f A2 n2 c2 L2 W (hS.below hb) (hS2.below hb) hn hn2)
  have hp := fun h => selB_parts (f := f) (n := n) (L := L2) (m := n2) h
  have ho : shownO f n L2 n2 = if selB f n L2 n2 = true then shownL f n L2 n2 else [] := rfl
  have HS := Lib.hid hS
  have HS2 := Lib.hid hS2
  generalize shownO f n L2 n2 = o at ho ⊢
  generalize selB f n L2 n2 = q at hg ho hp ⊢
  obtain ⟨i0, hi0, hz0, hz1, hz2⟩ := info_parts int_info
  clear hS hS2
  cases q
  · have HO : Hid (o = []) := ho
    clear ho hp
    go_enter Try.func39, Try.ntmps39
    go_wp2_with fail
    refine (hg.out _ (by repeat' (first | (with_reducible exact Below.refl _ _) | (with_reducible assumption) | (with_reducible refine Below.alloc ?_ ?_ _) | (with_reducible refine Below.drew ?_) | (with_reducible refine Below.setCell ?_ ?_ _) | (with_reducible refine Below.stepB (by assumption) ?_ ?_) | go_size))).mono ?_
    rintro e w1 ⟨rfl, hbw1⟩
    obtain ⟨hzw1, hcw1, hfw1⟩ := bfacts hbw1; (try simp at hzw1 hcw1 hfw1); (try (have : w.heap.size < w1.heap.size := by omega)); (try (have : w.heap.size + 1 < w1.heap.size := by omega)); (try (have : w.heap.size + 1 + 1 < w1.heap.size := by omega)); (try (have : w.heap.size + 1 + 1 + 1 < w1.heap.size := by omega))
    go_wp2
    go_ret2
    exact IntsOut.none HO.out rfl (by repeat' (first | (with_reducible exact Below.refl _ _) | (with_reducible assumption) | (with_reducible refine Below.alloc ?_ ?_ _) | (with_reducible refine Below.drew ?_) | (with_reducible refine Below.setCell ?_ ?_ _) | (with_reducible refine Below.stepB (by assumption) ?_ ?_) | go_size))
  · have HO : Hid (o = shownL f n L2 n2) := ho
    obtain ⟨hgd, -, hfnd⟩ := hp rfl
    have HG := Lib.hid (goodN_lt (goodNAll_iff.1 hgd).1)
    have HF := Lib.hid (fun k hk => fndB_at (k := k) hfnd hk)
    clear ho hp hgd hfnd
    go_enter Try.func39, Try.ntmps39
    go_wp2_with fail
    refine (hg.out _ (by repeat' (first | (with_reducible exact Below.refl _ _) | (with_reducible assumption) | (with_reducible refine Below.alloc ?_ ?_ _) | (with_reducible refine Below.drew ?_) | (with_reducible refine Below.setCell ?_ ?_ _) | (with_reducible refine Below.stepB (by assumption) ?_ ?_) | go_size))).mono ?_
    rintro e w1 ⟨rfl, hbw1⟩
    obtain ⟨hzw1, hcw1, hfw1⟩ := bfacts hbw1; (try simp at hzw1 hcw1 hfw1); (try (have : w.heap.size < w1.heap.size := by omega)); (try (have : w.heap.size + 1 < w1.heap.size := by omega)); (try (have : w.heap.size + 1 + 1 < w1.heap.size := by omega)); (try (have : w.heap.size + 1 + 1 + 1 < w1.heap.size := by omega))
    go_wp2
    go_loopw [6, 16] (fun v6 vc wr => ∃ k : Nat, k ≤ n2 ∧ vc = .int .i64 k ∧ wr.ownsRow w1.heap.size 3 1 v6 (shownL f n L2 k).length ((shownL f n L2 k).map (Value.int .i64)) ∧ w1.heap.size ≤ wr.heap.size ∧ Below w.heap.size w wr) (fun _ vc _ => n2 - (intOf vc).toNat)
    case atStart => exact ⟨0, Nat.zero_le _, rfl, ownsRow_empty w1 3 1, by simp, by repeat' (first | (with_reducible exact Below.refl _ _) | (with_reducible assumption) | (with_reducible refine Below.alloc ?_ ?_ _) | (with_reducible refine Below.drew ?_) | (with_reducible refine Below.setCell ?_ ?_ _) | (with_reducible refine Below.stepB (by assumption) ?_ ?_) | go_size)⟩
    case round =>
      obtain ⟨k, hk, rfl, hO, hzz, hbr⟩ := hrel
      have hzr := hbr.size
      have hlen : (shownL f n L2 k).length ≤ k := pick_len k
      obtain ⟨A8, c8, rfl⟩ := ownsRow_form hO
      have HO8 := Lib.hid hO
      clear hO
      by_cases hlt : k < n2
      · obtain ⟨b2, off2, rfl, hbl2, hbl2', d0⟩ := HS2.out.at (k := k) hbr hlt
        obtain ⟨q, hq, e, -⟩ := HF.out k hlt
        obtain ⟨b, off, rfl, hbl, hbl3, x0, x1, x2, x3, x4, hx⟩ := HS.out.at hbr hq
        have f1 := soundingIndex_any (some ⟨b, off, none⟩) n c f (L2 k) wr (HS.out.below hbr) hn
        rw [e] at f1
        have HL := Lib.hid (fun W => leastOf_any (f q) W (HG.out q hq))
        have HE : Hid (lowV (atId f n (L2 k)) = lowV (f q)) := by show _ = _; rw [atId_of e]
        have F1 := Lib.hid f1
        clear f1 e hx
        go_wp2_with fail
        refine F1.out.mono ?_
        rintro e w3 ⟨rfl, hbw3⟩
        obtain ⟨hzw3, hcw3, hfw3⟩ := bfacts hbw3; (try simp at hzw3 hcw3 hfw3); (try (have : w.heap.size < w3.heap.size := by omega)); (try (have : w.heap.size + 1 < w3.heap.size := by omega)); (try (have : w.heap.size + 1 + 1 < w3.heap.size := by omega)); (try (have : w.heap.size + 1 + 1 + 1 < w3.heap.size := by omega))
        go_wp2_with fail
        refine (HL.out _).mono ?_
        rintro e w4 ⟨rfl, hbw4⟩
        obtain ⟨hzw4, hcw4, hfw4⟩ := bfacts hbw4; (try simp at hzw4 hcw4 hfw4); (try (have : w.heap.size < w4.heap.size := by omega)); (try (have : w.heap.size + 1 < w4.heap.size := by omega)); (try (have : w.heap.size + 1 + 1 < w4.heap.size := by omega)); (try (have : w.heap.size + 1 + 1 + 1 < w4.heap.size := by omega))
        have hO4 := Lib.hid (ownsRow_below HO8.out (by repeat' (first | (with_reducible exact Below.refl _ _) | (with_reducible assumption) | (with_reducible refine Below.alloc ?_ ?_ _) | (with_reducible refine Below.drew ?_) | (with_reducible refine Below.setCell ?_ ?_ _) | (with_reducible refine Below.stepB (by assumption) ?_ ?_) | go_size)) : w4.ownsRow w1.heap.size 3 1 _ _ _)
        go_wp2_with (at_builtin; refine wpList_append_int1 _ rfl _ _ 23 rfl w1.heap.size 3 i0 Try.underlying23 hi0 hz0 hz1 hz2 _ _ _ rfl (hO4.out.alloc _) _ _ (lowV (f q)) rfl ?_ ?_ ?_ ?_; go_must (focus (simp; done)); go_must (focus omega); go_must (focus (simp; omega)); intro v9 w5 hOw5 hbw5; have hzw5 := hbw5.size; (try simp at hzw5))
        go_roundw
        case rel => exact ⟨k + 1, by omega, by go_num, by rw [shownL, pick_hit rfl, HE.out]; exact owns_snoc hOw5, by omega, by repeat' (first | (with_reducible exact Below.refl _ _) | (with_reducible assumption) | (with_reducible refine Below.alloc ?_ ?_ _) | (with_reducible refine Below.drew ?_) | (with_reducible refine Below.setCell ?_ ?_ _) | (with_reducible refine Below.stepB (by assumption) ?_ ?_) | go_size)⟩
        case measure => simp [intOf]; omega
      · obtain rfl : k = n2 := by omega
        go_wp2
        go_ret2
        exact IntsOut.row HO8.out HO.out rfl (by omega) hbr
theorem specShown_any (A : Option Addr) (n c : Nat) (f : Nat → SD) (A2 : Option Addr) (n2 c2 : Nat) (L2 : Nat → Int) (w : World) (hS : SlSD w A n f) (hS2 : SlI w A2 n2 L2) (hn : n ≤ 1048576) (hn2 : n2 ≤ 1048576) :
    Calls Try.prog 38 #[.slice A n c, .slice A2 n2 c2] w fun e w' => IntsOut w (shownO f n L2 n2) (selB f n L2 n2) e w' := by
  have hg := Lib.hid (fun W (hb : Below w.heap.size w W) => l16Chosen_any A n c f A2 n2 c2 L2 W (hS.below hb) (hS2.below hb) hn hn2)
  have hp := fun h => selB_parts (f := f) (n := n) (L := L2) (m := n2) h
  have ho : shownO f n L2 n2 = if selB f n L2 n2 = true then shownL f n L2 n2 else [] := rfl
  have HS := Lib.hid hS
  have HS2 := Lib.hid hS2
  generalize shownO f n L2 n2 = o at ho ⊢
  generalize selB f n L2 n2 = q at hg ho hp ⊢
  obtain ⟨i0, hi0, hz0, hz1, hz2⟩ := info_parts int_info
  clear hS hS2
  cases q
  · have HO : Hid (o = []) := ho
    clear ho hp
    go_enter Try.func38, Try.ntmps38
    go_wp2_with fail
    refine (hg.out _ (by repeat' (first | (with_reducible exact Below.refl _ _) | (with_reducible assumption) | (with_reducible refine Below.alloc ?_ ?_ _) | (with_reducible refine Below.drew ?_) | (with_reducible refine Below.setCell ?_ ?_ _) | (with_reducible refine Below.stepB (by assumption) ?_ ?_) | go_size))).mono ?_
    rintro e w1 ⟨rfl, hbw1⟩
    obtain ⟨hzw1, hcw1, hfw1⟩ := bfacts hbw1; (try simp at hzw1 hcw1 hfw1); (try (have : w.heap.size < w1.heap.size := by omega)); (try (have : w.heap.size + 1 < w1.heap.size := by omega)); (try (have : w.heap.size + 1 + 1 < w1.heap.size := by omega)); (try (have : w.heap.size + 1 + 1 + 1 < w1.heap.size := by omega))
    go_wp2
    go_ret2
    exact IntsOut.none HO.out rfl (by repeat' (first | (with_reducible exact Below.refl _ _) | (with_reducible assumption) | (with_reducible refine Below.alloc ?_ ?_ _) | (with_reducible refine Below.drew ?_) | (with_reducible refine Below.setCell ?_ ?_ _) | (with_reducible refine Below.stepB (by assumption) ?_ ?_) | go_size))
  · have HO : Hid (o = shownL f n L2 n2) := ho
    obtain ⟨hgd, -, hfnd⟩ := hp rfl
    have HG := Lib.hid (goodN_lt (goodNAll_iff.1 hgd).1)
    have HF := Lib.hid (fun k hk => fndB_at (k := k) hfnd hk)
    clear ho hp hgd hfnd
    go_enter Try.func38, Try.ntmps38
    go_wp2_with fail
    refine (hg.out _ (by repeat' (first | (with_reducible exact Below.refl _ _) | (with_reducible assumption) | (with_reducible refine Below.alloc ?_ ?_ _) | (with_reducible refine Below.drew ?_) | (with_reducible refine Below.setCell ?_ ?_ _) | (with_reducible refine Below.stepB (by assumption) ?_ ?_) | go_size))).mono ?_
    rintro e w1 ⟨rfl, hbw1⟩
    obtain ⟨hzw1, hcw1, hfw1⟩ := bfacts hbw1; (try simp at hzw1 hcw1 hfw1); (try (have : w.heap.size < w1.heap.size := by omega)); (try (have : w.heap.size + 1 < w1.heap.size := by omega)); (try (have : w.heap.size + 1 + 1 < w1.heap.size := by omega)); (try (have : w.heap.size + 1 + 1 + 1 < w1.heap.size := by omega))
    have hO0 := ownsRow_below (ownsRow_empty w 3 1) hbw1
    go_wp2
    go_loopw [6, 7] (fun v6 vc wr => ∃ k : Nat, k ≤ n2 ∧ vc = .int .i64 k ∧ wr.ownsRow w.heap.size 3 1 v6 (shownL f n L2 k).length ((shownL f n L2 k).map (Value.int .i64)) ∧ Below w.heap.size w wr) (fun _ vc _ => n2 - (intOf vc).toNat)
    case atStart => exact ⟨0, Nat.zero_le _, rfl, hO0, by repeat' (first | (with_reducible exact Below.refl _ _) | (with_reducible assumption) | (with_reducible refine Below.alloc ?_ ?_ _) | (with_reducible refine Below.drew ?_) | (with_reducible refine Below.setCell ?_ ?_ _) | (with_reducible refine Below.stepB (by assumption) ?_ ?_) | go_size)⟩
    case round =>
      clear hO0
      obtain ⟨k, hk, rfl, hO, hbr⟩ := hrel
      have hzr := hbr.size
      have hlen : (shownL f n L2 k).length ≤ k := pick_len k
      obtain ⟨A8, c8, rfl⟩ := ownsRow_form hO
      have HO8 := Lib.hid hO
      clear hO
      by_cases hlt : k < n2
      · obtain ⟨b2, off2, rfl, hbl2, hbl2', d0⟩ := HS2.out.at (k := k) hbr hlt
        obtain ⟨q, hq, e, -⟩ := HF.out k hlt
        obtain ⟨b, off, rfl, hbl, hbl3, x0, x1, x2, x3, x4, hx⟩ := HS.out.at hbr hq
        have f1 := l8Find_any (some ⟨b, off, none⟩) n c f (L2 k) wr (HS.out.below hbr) hn
        rw [e] at f1
        have HL := Lib.hid (fun W => l8Low_any (f q) W (HG.out q hq))
        have HE : Hid (lowV (atId f n (L2 k)) = lowV (f q)) := by show _ = _; rw [atId_of e]
        have F1 := Lib.hid f1
        clear f1 e hx
        go_wp2_with fail
        refine F1.out.mono ?_
        rintro e w3 ⟨rfl, rfl⟩
        go_wp2_with fail
        refine (HL.out _).mono ?_
        rintro e w4 ⟨rfl, hbw4⟩
        obtain ⟨hzw4, hcw4, hfw4⟩ := bfacts hbw4; (try simp at hzw4 hcw4 hfw4); (try (have : w.heap.size < w4.heap.size := by omega)); (try (have : w.heap.size + 1 < w4.heap.size := by omega)); (try (have : w.heap.size + 1 + 1 < w4.heap.size := by omega)); (try (have : w.heap.size + 1 + 1 + 1 < w4.heap.size := by omega))
        have hO4 := Lib.hid (ownsRow_below HO8.out (by repeat' (first | (with_reducible exact Below.refl _ _) | (with_reducible assumption) | (with_reducible refine Below.alloc ?_ ?_ _) | (with_reducible refine Below.drew ?_) | (with_reducible refine Below.setCell ?_ ?_ _) | (with_reducible refine Below.stepB (by assumption) ?_ ?_) | go_size)) : w4.ownsRow w.heap.size 3 1 _ _ _)
        go_wp2_with (at_builtin; refine wpList_append_int1 _ rfl _ _ 23 rfl w.heap.size 3 i0 Try.underlying23 hi0 hz0 hz1 hz2 _ _ _ rfl (hO4.out.alloc _) _ _ (lowV (f q)) rfl ?_ ?_ ?_ ?_; go_must (focus (simp; done)); go_must (focus omega); go_must (focus (simp; omega)); intro v9 w5 hOw5 hbw5; have hzw5 := hbw5.size; (try simp at hzw5))
        go_roundw
        case rel => exact ⟨k + 1, by omega, by go_num, by rw [shownL, pick_hit rfl, HE.out]; exact owns_snoc hOw5, by repeat' (first | (with_reducible exact Below.refl _ _) | (with_reducible assumption) | (with_reducible refine Below.alloc ?_ ?_ _) | (with_reducible refine Below.drew ?_) | (with_reducible refine Below.setCell ?_ ?_ _) | (with_reducible refine Below.stepB (by assumption) ?_ ?_) | go_size)⟩
        case measure => simp [intOf]; omega
      · obtain rfl : k = n2 := by omega
        go_wp2
        go_ret2
        exact IntsOut.row HO8.out HO.out rfl (by omega) hbr
theorem IsThin_at (A : Option Addr) (n c : Nat) (f : Nat → SD) (A2 : Option Addr) (n2 : Nat) (L2 : Nat → Int) (r : Int) (w : World) (hS : SlSD w A n f) (hS2 : SlI w A2 n2 L2) (hn : n ≤ 1048576) (hn2 : n2 ≤ 1048576) :
    Calls Try.prog 29 #[.slice A n c, .slice A2 n2 n2, .int .i64 r] w fun e w' => e = .returned (.tuple #[.bool (thinOut f n L2 n2 r), .bool (askB f n L2 n2 r)]) ∧ Below w.heap.size w w' := IsThin_any A n c f A2 n2 n2 L2 r w hS hS2 hn hn2 (Nat.le_refl _)
theorem Largest_at (A : Option Addr) (n c : Nat) (f : Nat → SD) (A2 : Option Addr) (n2 : Nat) (L2 : Nat → Int) (w : World) (hS : SlSD w A n f) (hS2 : SlI w A2 n2 L2) (hn : n ≤ 1048576) (hn2 : n2 ≤ 1048576) :
    Calls Try.prog 37 #[.slice A n c, .slice A2 n2 n2] w fun e w' => e = .returned (.tuple #[.int .i64 (radO f n L2 n2), .bool (radB f n L2 n2)]) ∧ Below w.heap.size w w' := LargestRadius_any A n c f A2 n2 n2 L2 w hS hS2 hn hn2 (Nat.le_refl _)
end Go.Proofs.Ytakkgagdbmlafaa
