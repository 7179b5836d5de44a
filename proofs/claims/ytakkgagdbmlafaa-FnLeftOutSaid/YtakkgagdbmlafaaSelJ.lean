/- Contracts: which chosen soundings can be left out: the reference's. -/
import Derived.Test.YtakkgagdbmlafaaSelI
namespace Go.Proofs.Ytakkgagdbmlafaa
open Go.RowKit
theorem specCan_no (A : Option Addr) (n c : Nat) (f : Nat → SD) (A2 : Option Addr) (n2 c2 : Nat) (L2 : Nat → Int) (r : Int) (w : World) (hS : SlSD w A n f) (hS2 : SlI w A2 n2 L2) (hn : n ≤ 1048576) (hn2 : n2 ≤ 1048576) (h : safeOut f n L2 n2 r = false) :
    Calls Try.prog 43 #[.slice A n c, .slice A2 n2 c2, .int .i64 r] w fun e w' => IntsOut w [] false e w' := by
  have hg := Lib.hid (fun W (hb : Below w.heap.size w W) => l16Asked_any A n c f A2 n2 c2 L2 r W (hS.below hb) (hS2.below hb) hn hn2)
  have ht := Lib.hid (fun W (hb : Below w.heap.size w W) (h : askB f n L2 n2 r = true) => l16Open_any A n c f A2 n2 c2 L2 r W (hS.below hb) (hS2.below hb) hn hn2 (ask_parts h).1 (ask_parts h).2.1 (ask_parts h).2.2.1)
  unfold safeOut at h
  clear hS hS2
  generalize openL f n L2 n2 r = t at ht h
  generalize askB f n L2 n2 r = q at hg ht h
  cases q
  · clear h
    go_enter Try.func43, Try.ntmps43
    go_wp2_with fail
    refine (hg.out _ (by repeat' (first | (with_reducible exact Below.refl _ _) | (with_reducible assumption) | (with_reducible refine Below.alloc ?_ ?_ _) | (with_reducible refine Below.drew ?_) | (with_reducible refine Below.setCell ?_ ?_ _) | (with_reducible refine Below.stepB (by assumption) ?_ ?_) | go_size))).mono ?_
    rintro e w1 ⟨rfl, hbw1⟩
    obtain ⟨hzw1, hcw1, hfw1⟩ := bfacts hbw1; (try simp at hzw1 hcw1 hfw1); (try (have : w.heap.size < w1.heap.size := by omega)); (try (have : w.heap.size + 1 < w1.heap.size := by omega)); (try (have : w.heap.size + 1 + 1 < w1.heap.size := by omega)); (try (have : w.heap.size + 1 + 1 + 1 < w1.heap.size := by omega))
    go_wp2
    go_ret2
    exact IntsOut.row (ownsRow_below (ownsRow_empty w 3 1) (by repeat' (first | (with_reducible exact Below.refl _ _) | (with_reducible assumption) | (with_reducible refine Below.alloc ?_ ?_ _) | (with_reducible refine Below.drew ?_) | (with_reducible refine Below.setCell ?_ ?_ _) | (with_reducible refine Below.stepB (by assumption) ?_ ?_) | go_size))) rfl rfl (by omega) (by repeat' (first | (with_reducible exact Below.refl _ _) | (with_reducible assumption) | (with_reducible refine Below.alloc ?_ ?_ _) | (with_reducible refine Below.drew ?_) | (with_reducible refine Below.setCell ?_ ?_ _) | (with_reducible refine Below.stepB (by assumption) ?_ ?_) | go_size))
  · have hpos : 0 < t.length := by
      rcases Nat.eq_zero_or_pos t.length with h0 | h0
      · rw [h0] at h; simp at h
      · exact h0
    have hposz : (0 : Int) < (t.length : Int) := by omega
    clear h
    go_enter Try.func43, Try.ntmps43
    go_wp2_with fail
    refine (hg.out _ (by repeat' (first | (with_reducible exact Below.refl _ _) | (with_reducible assumption) | (with_reducible refine Below.alloc ?_ ?_ _) | (with_reducible refine Below.drew ?_) | (with_reducible refine Below.setCell ?_ ?_ _) | (with_reducible refine Below.stepB (by assumption) ?_ ?_) | go_size))).mono ?_
    rintro e w1 ⟨rfl, hbw1⟩
    obtain ⟨hzw1, hcw1, hfw1⟩ := bfacts hbw1; (try simp at hzw1 hcw1 hfw1); (try (have : w.heap.size < w1.heap.size := by omega)); (try (have : w.heap.size + 1 < w1.heap.size := by omega)); (try (have : w.heap.size + 1 + 1 < w1.heap.size := by omega)); (try (have : w.heap.size + 1 + 1 + 1 < w1.heap.size := by omega))
    go_wp2_with fail
    refine (ht.out _ (by repeat' (first | (with_reducible exact Below.refl _ _) | (with_reducible assumption) | (with_reducible refine Below.alloc ?_ ?_ _) | (with_reducible refine Below.drew ?_) | (with_reducible refine Below.setCell ?_ ?_ _) | (with_reducible refine Below.stepB (by assumption) ?_ ?_) | go_size)) (by first | trivial | assumption)).mono ?_
    rintro e w2 ⟨A', c', rfl, -, hbw2⟩
    obtain ⟨hzw2, hcw2, hfw2⟩ := bfacts hbw2; (try simp at hzw2 hcw2 hfw2); (try (have : w.heap.size < w2.heap.size := by omega)); (try (have : w.heap.size + 1 < w2.heap.size := by omega)); (try (have : w.heap.size + 1 + 1 < w2.heap.size := by omega)); (try (have : w.heap.size + 1 + 1 + 1 < w2.heap.size := by omega))
    go_wp2
    go_ret2
    exact IntsOut.row (ownsRow_below (ownsRow_empty w 3 1) (by repeat' (first | (with_reducible exact Below.refl _ _) | (with_reducible assumption) | (with_reducible refine Below.alloc ?_ ?_ _) | (with_reducible refine Below.drew ?_) | (with_reducible refine Below.setCell ?_ ?_ _) | (with_reducible refine Below.stepB (by assumption) ?_ ?_) | go_size))) rfl rfl (by omega) (by repeat' (first | (with_reducible exact Below.refl _ _) | (with_reducible assumption) | (with_reducible refine Below.alloc ?_ ?_ _) | (with_reducible refine Below.drew ?_) | (with_reducible refine Below.setCell ?_ ?_ _) | (with_reducible refine Below.stepB (by assumption) ?_ ?_) | go_size))
set_option maxHeartbeats 1000000 in
set_option maxRecDepth 100000 in
theorem specCan_yes (A : Option Addr) (n c : Nat) (f : Nat → SD) (b2 off2 n2 c2 : Nat) (L2 : Nat → Int) (r : Int) (w : World) (hS : SlSD w A n f) (hS2 : SlI w (some ⟨b2, off2, none⟩) n2 L2) (hn : n ≤ 1048576) (hn2 : n2 ≤ 1048576) (hc2 : n2 ≤ c2) (h : safeOut f n L2 n2 r = true) :
    Calls Try.prog 43 #[.slice A n c, .slice (some ⟨b2, off2, none⟩) n2 c2, .int .i64 r] w fun e w' => IntsOut w (cloT f n L2 n2 r n2) true e w' := by
  have h0 : askB f n L2 n2 r = true ∧ (openL f n L2 n2 r).length = 0 := by simpa [safeOut] using h
  obtain ⟨hp1, hp2, hp3, hp4⟩ := ask_parts h0.1
  have hg := fun W (hb : Below w.heap.size w W) => l16Asked_any A n c f (some ⟨b2, off2, none⟩) n2 c2 L2 r W (hS.below hb) (hS2.below hb) hn hn2
  rw [h0.1] at hg
  have HG := Lib.hid hg
  have ht := fun W (hb : Below w.heap.size w W) => l16Open_any A n c f (some ⟨b2, off2, none⟩) n2 c2 L2 r W (hS.below hb) (hS2.below hb) hn hn2 hp1 hp2 hp3
  have HT : Hid (∀ W, Below w.heap.size w W → Calls Try.prog 65 #[.slice A n c, .slice (some ⟨b2, off2, none⟩) n2 c2, .int .i64 r] W fun e w' => ∃ A' c', e = .returned (.slice A' 0 c') ∧ Below W.heap.size W w') := fun W hb => (ht W hb).mono fun e w' ⟨A', c', h1, _, h3⟩ => ⟨A', c', by rw [h1, h0.2], h3⟩
  have HW := Lib.hid (fun k (hk : k < n2) A4 c' W (hb : Below w.heap.size w W) (hO : SlI W A4 (n2 - 1) (woL L2 k)) => l16Open_any A n c f A4 (n2 - 1) c' (woL L2 k) r W (hS.below hb) hO hn (by omega) hp1 (fndB_wo hp2 hk) hp3)
  have HCP := Lib.hid (fun k (hk : k < n2) W (hb : Below w.heap.size w W) => l16Without_any b2 off2 n2 c2 k L2 W (hS2.below hb) hc2 hn2 hk)
  have HS2 := Lib.hid hS2
  obtain ⟨i0, hi0, hz0, hz1, hz2⟩ := info_parts int1_info
  clear hS hS2 hg ht h h0 hp1 hp2 hp3 hp4
  go_enter Try.func43, Try.ntmps43
  go_wp2_with fail
  refine (HG.out _ (by repeat' (first | (with_reducible exact Below.refl _ _) | (with_reducible assumption) | (with_reducible refine Below.alloc ?_ ?_ _) | (with_reducible refine Below.drew ?_) | (with_reducible refine Below.setCell ?_ ?_ _) | (with_reducible refine Below.stepB (by assumption) ?_ ?_) | go_size))).mono ?_
  rintro e w1 ⟨rfl, hbw1⟩
  obtain ⟨hzw1, hcw1, hfw1⟩ := bfacts hbw1; (try simp at hzw1 hcw1 hfw1); (try (have : w.heap.size < w1.heap.size := by omega)); (try (have : w.heap.size + 1 < w1.heap.size := by omega)); (try (have : w.heap.size + 1 + 1 < w1.heap.size := by omega)); (try (have : w.heap.size + 1 + 1 + 1 < w1.heap.size := by omega))
  go_wp2_with fail
  refine (HT.out _ (by repeat' (first | (with_reducible exact Below.refl _ _) | (with_reducible assumption) | (with_reducible refine Below.alloc ?_ ?_ _) | (with_reducible refine Below.drew ?_) | (with_reducible refine Below.setCell ?_ ?_ _) | (with_reducible refine Below.stepB (by assumption) ?_ ?_) | go_size))).mono ?_
  rintro e w2 ⟨A', c', rfl, hbw2⟩
  obtain ⟨hzw2, hcw2, hfw2⟩ := bfacts hbw2; (try simp at hzw2 hcw2 hfw2); (try (have : w.heap.size < w2.heap.size := by omega)); (try (have : w.heap.size + 1 < w2.heap.size := by omega)); (try (have : w.heap.size + 1 + 1 < w2.heap.size := by omega)); (try (have : w.heap.size + 1 + 1 + 1 < w2.heap.size := by omega))
  have hO0 := Lib.hid (ownsRow_below (ownsRow_empty w 3 1) (by repeat' (first | (with_reducible exact Below.refl _ _) | (with_reducible assumption) | (with_reducible refine Below.alloc ?_ ?_ _) | (with_reducible refine Below.drew ?_) | (with_reducible refine Below.setCell ?_ ?_ _) | (with_reducible refine Below.stepB (by assumption) ?_ ?_) | go_size)) : w2.ownsRow w.heap.size 3 1 _ _ _)
  go_wp2
  go_loopw [8, 9] (fun v8 v9 wr => ∃ k : Nat, k ≤ n2 ∧ v9 = .int .i64 k ∧ Hid (wr.ownsRow w.heap.size 3 1 v8 (cloT f n L2 n2 r k).length ((cloT f n L2 n2 r k).map (Value.int .i64))) ∧ Below w.heap.size w wr) (fun _ v9 _ => n2 - (intOf v9).toNat)
  case atStart => exact ⟨0, Nat.zero_le _, rfl, hO0.out, by repeat' (first | (with_reducible exact Below.refl _ _) | (with_reducible assumption) | (with_reducible refine Below.alloc ?_ ?_ _) | (with_reducible refine Below.drew ?_) | (with_reducible refine Below.setCell ?_ ?_ _) | (with_reducible refine Below.stepB (by assumption) ?_ ?_) | go_size)⟩
  case round =>
    clear hO0
    obtain ⟨k, hk, rfl, hO, hbr⟩ := hrel
    have hzr := hbr.size
    obtain ⟨A8, c8, rfl⟩ := ownsRow_form hO.out
    have hlen := cloT_len f n L2 n2 r k
    by_cases hlt : k < n2
    · obtain ⟨b, off, hbo, hbl, hbl2, c0⟩ := SlI.at HS2.out hbr hlt
      obtain ⟨rfl, rfl⟩ : b2 = b ∧ off2 = off := by simpa using hbo
      clear hbo
      go_wp2_with fail
      refine (HCP.out k hlt _ hbr).mono ?_
      rintro e w4 ⟨v, rfl, hO4, hbw4⟩
      obtain ⟨A4, c4, rfl⟩ := ownsRow_form hO4
      have hown := Lib.hid (flat1_own hO4)
      have hzw4 := hbw4.size
      have HQ4 := Lib.hid (ownsRow_below hO.out (hbw4.mono (by omega)) : w4.ownsRow w.heap.size 3 1 _ _ _)
      have hbW4 := hbr.trans (hbw4.mono (by omega))
      have hx4 := (hbw4.cell hbl2).trans c0
      clear hO4 hO hbw4
      go_wp2_with fail
      refine (HW.out k hlt A4 c4 _ hbW4 (Own.sl hown.out)).mono ?_
      rintro e w6 ⟨A6, c6, rfl, -, hbw6⟩
      have hx6 := (hbw6.cell (p := ⟨b2, _, none⟩) (by show b2 < _; omega)).trans hx4
      obtain ⟨hzw6, hcw6, hfw6⟩ := bfacts hbw6; (try simp at hzw6 hcw6 hfw6); (try (have : w.heap.size < w6.heap.size := by omega)); (try (have : w.heap.size + 1 < w6.heap.size := by omega)); (try (have : w.heap.size + 1 + 1 < w6.heap.size := by omega)); (try (have : w.heap.size + 1 + 1 + 1 < w6.heap.size := by omega))
      clear hcw6 hfw6
      have HQ6 := Lib.hid (ownsRow_below HQ4.out (hbw6.mono (by omega)) : w6.ownsRow w.heap.size 3 1 _ _ _)
      have HOL : Hid (cloP f n L2 n2 r k = decide ((openL f n (woL L2 k) (n2 - 1) r).length = 0)) := rfl
      generalize (openL f n (woL L2 k) (n2 - 1) r).length = z at HOL ⊢
      rcases Nat.eq_zero_or_pos z with rfl | hz
      · have HE := Lib.hid (cloT_hit (f := f) (n := n) (L := L2) (m := n2) (r := r) (k := k) (by rw [HOL.out]; rfl))
        go_wp2_with (at_builtin; refine wpList_append_int1 _ rfl _ _ 23 rfl w.heap.size 3 i0 Try.underlying23 hi0 hz0 hz1 hz2 _ _ _ rfl ((HQ6.out.alloc _)) _ _ ((L2 k)) rfl ?_ ?_ ?_ ?_; go_must (focus (simp; done)); go_must (focus omega); go_must (focus (simp; omega)); intro v9 w7 hOw7 hbw7; have hzw7 := hbw7.size; (try simp at hzw7))
        go_roundw
        case rel => exact ⟨k + 1, by omega, by go_num, by rw [HE.out]; exact owns_snoc hOw7, by repeat' (first | (with_reducible exact Below.refl _ _) | (with_reducible assumption) | (with_reducible refine Below.alloc ?_ ?_ _) | (with_reducible refine Below.drew ?_) | (with_reducible refine Below.setCell ?_ ?_ _) | (with_reducible refine Below.stepB (by assumption) ?_ ?_) | go_size)⟩
        case measure => simp [intOf]; omega
      · have HE := Lib.hid (cloT_miss (f := f) (n := n) (L := L2) (m := n2) (r := r) (k := k) (by rw [HOL.out]; exact decide_eq_false (by omega)))
        have hzb : ((z : Int) == 0) = false := by simp; omega
        go_wp2
        go_roundw
        case rel => exact ⟨k + 1, by omega, by go_num, by rw [HE.out]; exact HQ6.out, by repeat' (first | (with_reducible exact Below.refl _ _) | (with_reducible assumption) | (with_reducible refine Below.alloc ?_ ?_ _) | (with_reducible refine Below.drew ?_) | (with_reducible refine Below.setCell ?_ ?_ _) | (with_reducible refine Below.stepB (by assumption) ?_ ?_) | go_size)⟩
        case measure => simp [intOf]; omega
    · obtain rfl : k = n2 := by omega
      go_wp2
      go_ret2
      exact IntsOut.row hO.out rfl rfl (by omega) (by repeat' (first | (with_reducible exact Below.refl _ _) | (with_reducible assumption) | (with_reducible refine Below.alloc ?_ ?_ _) | (with_reducible refine Below.drew ?_) | (with_reducible refine Below.setCell ?_ ?_ _) | (with_reducible refine Below.stepB (by assumption) ?_ ?_) | go_size))
theorem specCan_any (A : Option Addr) (n c : Nat) (f : Nat → SD) (b2 off2 n2 c2 : Nat) (L2 : Nat → Int) (r : Int) (w : World) (hS : SlSD w A n f) (hS2 : SlI w (some ⟨b2, off2, none⟩) n2 L2) (hn : n ≤ 1048576) (hn2 : n2 ≤ 1048576) (hc2 : n2 ≤ c2) :
    Calls Try.prog 43 #[.slice A n c, .slice (some ⟨b2, off2, none⟩) n2 c2, .int .i64 r] w fun e w' => IntsOut w (cloL f n L2 n2 r) (safeOut f n L2 n2 r) e w' := by
  rcases Bool.eq_false_or_eq_true (safeOut f n L2 n2 r) with h | h
  · rw [cloL, h]
    exact specCan_yes A n c f b2 off2 n2 c2 L2 r w hS hS2 hn hn2 hc2 h
  · rw [cloL, h]
    exact specCan_no A n c f _ n2 c2 L2 r w hS hS2 hn hn2 h
theorem specCan_at (A : Option Addr) (n : Nat) (f : Nat → SD) (b2 n2 : Nat) (L2 : Nat → Int) (r : Int) (w : World) (hS : SlSD w A n f) (hS2 : SlI w (some ⟨b2, 0, none⟩) n2 L2) (hn : n ≤ 1048576) (hn2 : n2 ≤ 1048576) :
    Calls Try.prog 43 #[.slice A n n, .slice (some ⟨b2, 0, none⟩) n2 n2, .int .i64 r] w fun e w' => IntsOut w (cloL f n L2 n2 r) (safeOut f n L2 n2 r) e w' := specCan_any A n n f b2 0 n2 n2 L2 r w hS hS2 hn hn2 (Nat.le_refl _)
end Go.Proofs.Ytakkgagdbmlafaa
