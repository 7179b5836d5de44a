/- Contracts of the functions that judge a selection of soundings. -/
import Derived.Test.YtakkgagdbmlafaaSelP
namespace Go.Proofs.Ytakkgagdbmlafaa
open Go.RowKit
theorem ascending_any (A : Option Addr) (n c : Nat) (L : Nat → Int) (lo hi : Int) (w : World) (hS : SlI w A n L) (hn : n ≤ 1048576) : Calls Try.prog 52 #[.slice A n c, .int .i64 lo, .int .i64 hi] w
    fun e w' => e = .returned (.bool (ascN L lo hi n)) ∧ Below w.heap.size w w' := by
  go_enter Try.func52, Try.ntmps52
  go_wp2
  go_loopw [11] (fun v wr => ∃ k : Nat, k ≤ n ∧ v = .int .i64 k ∧ ascN L lo hi k = true ∧ Below w.heap.size w wr) (fun v _ => n - (intOf v).toNat)
  case atStart => exact ⟨0, Nat.zero_le _, rfl, rfl, Below.refl _ _⟩
  case round =>
    obtain ⟨k, hk, rfl, hg, hbr⟩ := hrel
    have HG := Lib.hid hg
    clear hg
    by_cases hlt : k < n
    · obtain ⟨b, off, rfl, hbl, hbl2, c0⟩ := hS.at hbr hlt
      rcases Bool.eq_false_or_eq_true (inB (L k) lo hi) with h | h
      · rcases Nat.eq_zero_or_pos k with rfl | hpos
        · simp only [Nat.add_zero] at c0
          clear hS
          go_wp2_with (go_at_call 82; refine (inside_any _ _ _ _).mono ?_; rintro e w' ⟨rfl, rfl⟩)
          go_roundw
          case rel => exact ⟨1, by omega, rfl, by simp [ascN, h], by repeat' (first | (with_reducible exact Below.refl _ _) | (with_reducible assumption) | (with_reducible refine Below.alloc ?_ ?_ _) | (with_reducible refine Below.drew ?_) | (with_reducible refine Below.setCell ?_ ?_ _) | (with_reducible refine Below.stepB (by assumption) ?_ ?_) | go_size)⟩
          case measure => simp [intOf]; omega
        · obtain ⟨m, rfl⟩ : ∃ m, k = m + 1 := ⟨k - 1, by omega⟩
          obtain ⟨b', off', hA', _, _, hp⟩ := hS.at (k := m) hbr (by omega)
          obtain ⟨rfl, rfl⟩ : b = b' ∧ off = off' := by simpa using hA'
          clear hS hA'
          by_cases hid : L m < L (m + 1)
          · go_wp2_with (go_at_call 82; refine (inside_any _ _ _ _).mono ?_; rintro e w' ⟨rfl, rfl⟩)
            go_roundw
            case rel => exact ⟨m + 1 + 1, by omega, by go_num, by have := HG.out; simp only [ascN] at this ⊢; simp [this, h, hid], by repeat' (first | (with_reducible exact Below.refl _ _) | (with_reducible assumption) | (with_reducible refine Below.alloc ?_ ?_ _) | (with_reducible refine Below.drew ?_) | (with_reducible refine Below.setCell ?_ ?_ _) | (with_reducible refine Below.stepB (by assumption) ?_ ?_) | go_size)⟩
            case measure => simp [intOf]; omega
          · have hgn := Lib.hid (ascN_id (L := L) (lo := lo) (hi := hi) (m := m) (by omega) n hlt)
            go_wp2_with (go_at_call 82; refine (inside_any _ _ _ _).mono ?_; rintro e w' ⟨rfl, rfl⟩)
            go_ret
            exact ⟨ret_bool hgn.out.symm, by repeat' (first | (with_reducible exact Below.refl _ _) | (with_reducible assumption) | (with_reducible refine Below.alloc ?_ ?_ _) | (with_reducible refine Below.drew ?_) | (with_reducible refine Below.setCell ?_ ?_ _) | (with_reducible refine Below.stepB (by assumption) ?_ ?_) | go_size)⟩
      · have hgn := Lib.hid (ascN_in h n hlt)
        clear hS
        go_wp2_with (go_at_call 82; refine (inside_any _ _ _ _).mono ?_; rintro e w' ⟨rfl, rfl⟩)
        go_ret
        exact ⟨ret_bool hgn.out.symm, by repeat' (first | (with_reducible exact Below.refl _ _) | (with_reducible assumption) | (with_reducible refine Below.alloc ?_ ?_ _) | (with_reducible refine Below.drew ?_) | (with_reducible refine Below.setCell ?_ ?_ _) | (with_reducible refine Below.stepB (by assumption) ?_ ?_) | go_size)⟩
    · obtain rfl : k = n := by omega
      clear hS
      go_wp2
      go_ret
      exact ⟨ret_bool HG.out.symm, by repeat' (first | (with_reducible exact Below.refl _ _) | (with_reducible assumption) | (with_reducible refine Below.alloc ?_ ?_ _) | (with_reducible refine Below.drew ?_) | (with_reducible refine Below.setCell ?_ ?_ _) | (with_reducible refine Below.stepB (by assumption) ?_ ?_) | go_size)⟩
theorem l16Chosen_any (A : Option Addr) (n c : Nat) (f : Nat → SD) (A2 : Option Addr) (n2 c2 : Nat) (L2 : Nat → Int) (w : World) (hS : SlSD w A n f) (hS2 : SlI w A2 n2 L2) (hn : n ≤ 1048576) (hn2 : n2 ≤ 1048576) :
    Calls Try.prog 49 #[.slice A n c, .slice A2 n2 c2] w fun e w' => e = .returned (.bool (selB f n L2 n2)) ∧ Below w.heap.size w w' := by
  have HS := Lib.hid hS
  clear hS
  go_enter Try.func49, Try.ntmps49
  go_wp2
  go_loopw [5] (fun v wr => ∃ k : Nat, k ≤ n2 ∧ v = .int .i64 k ∧ fndN f n L2 k = true ∧ Below w.heap.size w wr) (fun v _ => n2 - (intOf v).toNat)
  case atStart => exact ⟨0, Nat.zero_le _, rfl, rfl, Below.refl _ _⟩
  case round =>
    obtain ⟨k, hk, rfl, hg, hbr⟩ := hrel
    have HG := Lib.hid hg
    clear hg
    have hzr := hbr.size
    by_cases hlt : k < n2
    · obtain ⟨b, off, rfl, hbl, hbl2, c0⟩ := hS2.at hbr hlt
      have HB := Lib.hid hbr
      have hfn := fun (x : Later wr) => l8Find_any A n c f (L2 k) x.w (HS.out.below (Later.old x hbr (by omega))) hn
      obtain ⟨q, hq⟩ : ∃ q, idxId f n (L2 k) = q := ⟨_, rfl⟩
      rw [hq] at hfn
      have HF := Lib.hid hfn
      have HQ := Lib.hid hq
      clear hfn hq
      by_cases h : 0 ≤ q
      · have h' : decide (q < 0) = false := by simp; omega
        rcases Nat.eq_zero_or_pos k with rfl | hpos
        · simp only [Nat.add_zero] at c0
          clear hS2
          go_wp2
          refine wp_region_later (by kernel_rfl) (by kernel_rfl) (fun hlx => ?_)
          repeat (go_big_quiet_step ((go_at_call 67; exact Later.same (HF.out _))))
          refine wpQuiet_nil ?_
          clear hlx
          intro w1 hbw1
          obtain ⟨hzw1, hcw1, hfw1⟩ := bfacts hbw1; (try simp at hzw1 hcw1 hfw1); (try (have : w.heap.size < w1.heap.size := by omega)); (try (have : w.heap.size + 1 < w1.heap.size := by omega)); (try (have : w.heap.size + 1 + 1 < w1.heap.size := by omega)); (try (have : w.heap.size + 1 + 1 + 1 < w1.heap.size := by omega))
          go_wp2
          go_roundw
          case rel => exact ⟨1, by omega, rfl, by simp [fndN, HQ.out, h], by repeat' (first | (with_reducible exact Below.refl _ _) | (with_reducible assumption) | (with_reducible refine Below.alloc ?_ ?_ _) | (with_reducible refine Below.drew ?_) | (with_reducible refine Below.setCell ?_ ?_ _) | (with_reducible refine Below.stepB (by assumption) ?_ ?_) | go_size)⟩
          case measure => simp [intOf]; omega
        · obtain ⟨m, rfl⟩ : ∃ m, k = m + 1 := ⟨k - 1, by omega⟩
          obtain ⟨b', off', hA', _, _, hp⟩ := hS2.at (k := m) hbr (by omega)
          obtain ⟨rfl, rfl⟩ : b = b' ∧ off = off' := by simpa using hA'
          clear hS2 hA'
          by_cases hid : L2 m < L2 (m + 1)
          · go_wp2
            refine wp_region_later (by kernel_rfl) (by kernel_rfl) (fun hlx => ?_)
            repeat (go_big_quiet_step ((go_at_call 67; exact Later.same (HF.out _))))
            refine wpQuiet_nil ?_
            clear hlx
            intro w1 hbw1
            obtain ⟨hzw1, hcw1, hfw1⟩ := bfacts hbw1; (try simp at hzw1 hcw1 hfw1); (try (have : w.heap.size < w1.heap.size := by omega)); (try (have : w.heap.size + 1 < w1.heap.size := by omega)); (try (have : w.heap.size + 1 + 1 < w1.heap.size := by omega)); (try (have : w.heap.size + 1 + 1 + 1 < w1.heap.size := by omega))
            go_wp2
            go_roundw
            case rel => exact ⟨m + 1 + 1, by omega, by go_num, by have := HG.out; simp only [fndN] at this ⊢; simp [this, HQ.out, h, hid], by repeat' (first | (with_reducible exact Below.refl _ _) | (with_reducible assumption) | (with_reducible refine Below.alloc ?_ ?_ _) | (with_reducible refine Below.drew ?_) | (with_reducible refine Below.setCell ?_ ?_ _) | (with_reducible refine Below.stepB (by assumption) ?_ ?_) | go_size)⟩
            case measure => simp [intOf]; omega
          · have hgn := Lib.hid (fndN_id (f := f) (n := n) (L := L2) (q := m) (by omega) n2 hlt)
            have HR : Hid (false = selB f n L2 n2) := by show _ = _; rw [← selB_spec, hgn.out]; rfl
            go_wp2
            refine wp_region_later (by kernel_rfl) (by kernel_rfl) (fun hlx => ?_)
            repeat (go_big_quiet_step ((go_at_call 67; exact Later.same (HF.out _))))
            refine wpQuiet_nil ?_
            clear hlx
            intro w1 hbw1
            obtain ⟨hzw1, hcw1, hfw1⟩ := bfacts hbw1; (try simp at hzw1 hcw1 hfw1); (try (have : w.heap.size < w1.heap.size := by omega)); (try (have : w.heap.size + 1 < w1.heap.size := by omega)); (try (have : w.heap.size + 1 + 1 < w1.heap.size := by omega)); (try (have : w.heap.size + 1 + 1 + 1 < w1.heap.size := by omega))
            go_wp2
            go_ret
            exact ⟨ret_bool HR.out, by repeat' (first | (with_reducible exact Below.refl _ _) | (with_reducible assumption) | (with_reducible refine Below.alloc ?_ ?_ _) | (with_reducible refine Below.drew ?_) | (with_reducible refine Below.setCell ?_ ?_ _) | (with_reducible refine Below.stepB (by assumption) ?_ ?_) | go_size)⟩
      · have hgn := Lib.hid (fndN_in (f := f) (n := n) (L := L2) (k := k) (by rw [HQ.out]; omega) n2 hlt)
        have HR : Hid (false = selB f n L2 n2) := by show _ = _; rw [← selB_spec, hgn.out]; rfl
        have h' : q < 0 := by omega
        clear hS2
        go_wp2
        refine wp_region_later (by kernel_rfl) (by kernel_rfl) (fun hlx => ?_)
        repeat (go_big_quiet_step ((go_at_call 67; exact Later.same (HF.out _))))
        refine wpQuiet_nil ?_
        clear hlx
        intro w1 hbw1
        obtain ⟨hzw1, hcw1, hfw1⟩ := bfacts hbw1; (try simp at hzw1 hcw1 hfw1); (try (have : w.heap.size < w1.heap.size := by omega)); (try (have : w.heap.size + 1 < w1.heap.size := by omega)); (try (have : w.heap.size + 1 + 1 < w1.heap.size := by omega)); (try (have : w.heap.size + 1 + 1 + 1 < w1.heap.size := by omega))
        go_wp2
        go_ret
        exact ⟨ret_bool HR.out, by repeat' (first | (with_reducible exact Below.refl _ _) | (with_reducible assumption) | (with_reducible refine Below.alloc ?_ ?_ _) | (with_reducible refine Below.drew ?_) | (with_reducible refine Below.setCell ?_ ?_ _) | (with_reducible refine Below.stepB (by assumption) ?_ ?_) | go_size)⟩
    · obtain rfl : k = n2 := by omega
      clear hS2
      have HR : Hid (goodNAll f n = selB f n L2 k) := by show _ = _; rw [← selB_spec, HG.out]; rfl
      go_wp2_with fail
      refine (l8Good_any A n c f _ (HS.out.below (by repeat' (first | (with_reducible exact Below.refl _ _) | (with_reducible assumption) | (with_reducible refine Below.alloc ?_ ?_ _) | (with_reducible refine Below.drew ?_) | (with_reducible refine Below.setCell ?_ ?_ _) | (with_reducible refine Below.stepB (by assumption) ?_ ?_) | go_size))) hn).mono ?_
      rintro e w1 ⟨rfl, hbw1⟩
      obtain ⟨hzw1, hcw1, hfw1⟩ := bfacts hbw1; (try simp at hzw1 hcw1 hfw1); (try (have : w.heap.size < w1.heap.size := by omega)); (try (have : w.heap.size + 1 < w1.heap.size := by omega)); (try (have : w.heap.size + 1 + 1 < w1.heap.size := by omega)); (try (have : w.heap.size + 1 + 1 + 1 < w1.heap.size := by omega))
      go_wp2
      go_ret
      exact ⟨ret_bool HR.out, by repeat' (first | (with_reducible exact Below.refl _ _) | (with_reducible assumption) | (with_reducible refine Below.alloc ?_ ?_ _) | (with_reducible refine Below.drew ?_) | (with_reducible refine Below.setCell ?_ ?_ _) | (with_reducible refine Below.stepB (by assumption) ?_ ?_) | go_size)⟩
theorem selFn_any (id : Int) (A : Option Addr) (n c : Nat) (f : Nat → SD) (B : Nat) (w : World) (_hB : B < w.heap.size) (hc : w.cell? ⟨B, 0, none⟩ = some (.slice A n c)) (hS : SlSD w A n f) (hn : n ≤ 1048576) :
    Calls Try.prog 54 #[.int .i64 id, .pointer (some ⟨B, 0, none⟩)] w fun e w' => e = .returned (.bool (decide (idxId f n id < 0))) ∧ Below w.heap.size w w' := by
  have hf := Lib.hid (fun W (hb : Below w.heap.size w W) => soundingIndex_any A n c f id W (hS.below hb) hn)
  clear hS
  generalize idxId f n id = q at hf ⊢
  go_enter Try.func54, Try.ntmps54
  go_wp2_with fail
  refine (hf.out _ (by repeat' (first | (with_reducible exact Below.refl _ _) | (with_reducible assumption) | (with_reducible refine Below.alloc ?_ ?_ _) | (with_reducible refine Below.drew ?_) | (with_reducible refine Below.setCell ?_ ?_ _) | (with_reducible refine Below.stepB (by assumption) ?_ ?_) | go_size))).mono ?_
  rintro e w1 ⟨rfl, hbw1⟩
  obtain ⟨hzw1, hcw1, hfw1⟩ := bfacts hbw1; (try simp at hzw1 hcw1 hfw1); (try (have : w.heap.size < w1.heap.size := by omega)); (try (have : w.heap.size + 1 < w1.heap.size := by omega)); (try (have : w.heap.size + 1 + 1 < w1.heap.size := by omega)); (try (have : w.heap.size + 1 + 1 + 1 < w1.heap.size := by omega))
  go_wp2
  go_ret
  exact ⟨ret_bool (by rfl), by repeat' (first | (with_reducible exact Below.refl _ _) | (with_reducible assumption) | (with_reducible refine Below.alloc ?_ ?_ _) | (with_reducible refine Below.drew ?_) | (with_reducible refine Below.setCell ?_ ?_ _) | (with_reducible refine Below.stepB (by assumption) ?_ ?_) | go_size)⟩
theorem enters_selFn : ∀ args w, (callFunc 54 args).run Try.prog w = .ok (.enter 54 args) w := enters_of Try.func54 (by kernel_rfl) rfl
theorem fndB_has (f : Nat → SD) (n : Nat) (L : Nat → Int) (m : Nat) : fndB f n L m = !hasP (fun i => decide (idxId f n (L i) < 0)) m := by
  rw [← hasP_all]
  exact allUpto_congr m fun i _ => by rw [Bool.eq_iff_iff]; simp
theorem IsSelection_any (A : Option Addr) (n c : Nat) (f : Nat → SD) (A2 : Option Addr) (n2 c2 : Nat) (L2 : Nat → Int) (w : World) (hS : SlSD w A n f) (hS2 : SlI w A2 n2 L2) (hn : n ≤ 1048576) (hn2 : n2 ≤ 1048576) :
    Calls Try.prog 18 #[.slice A n c, .slice A2 n2 c2] w fun e w' => e = .returned (.bool (selB f n L2 n2)) ∧ Below w.heap.size w w' := by
  have hg := Lib.hid (fun W (hb : Below w.heap.size w W) => AreSoundings_any A n c f W (hS.below hb) hn)
  have ha := Lib.hid (fun W (hb : Below w.heap.size w W) => ascending_any A2 n2 c2 L2 1 999 W (hS2.below hb) hn2)
  have hf := Lib.hid (fun W (hb : Below w.heap.size w W) B (hB : B < W.heap.size) (hcell : W.cell? ⟨B, 0, none⟩ = some (.slice A n c)) =>
    hasInts_any A2 n2 c2 L2 (fun x => decide (idxId f n x < 0)) _ #[.pointer (some ⟨B, 0, none⟩)] W (hS2.below hb) hn2 enters_selFn
      (fun k W' _ hb' => selFn_any (L2 k) A n c f B W' (by have := hb'.size; omega) ((hb'.cell (p := ⟨B, 0, none⟩) hB).trans hcell) (hS.below (hb.trans (hb'.mono hb.size))) hn))
  have he : selB f n L2 n2 = (goodNAll f n && (ascN L2 1 999 n2 && !hasP (fun i => decide (idxId f n (L2 i) < 0)) n2)) := by rw [selB, fndB_has]
  clear hS hS2
  generalize hasP (fun i => decide (idxId f n (L2 i) < 0)) n2 = q3 at hf he
  generalize ascN L2 1 999 n2 = q2 at ha he
  generalize goodNAll f n = q1 at hg he
  rw [he]
  clear he
  cases q1 <;> cases q2
  all_goals
    go_enter Try.func18, Try.ntmps18
    go_wp2_with fail
    refine (hg.out _ (by repeat' (first | (with_reducible exact Below.refl _ _) | (with_reducible assumption) | (with_reducible refine Below.alloc ?_ ?_ _) | (with_reducible refine Below.drew ?_) | (with_reducible refine Below.setCell ?_ ?_ _) | (with_reducible refine Below.stepB (by assumption) ?_ ?_) | go_size))).mono ?_
    rintro e w1 ⟨rfl, hbw1⟩
    obtain ⟨hzw1, hcw1, hfw1⟩ := bfacts hbw1; (try simp at hzw1 hcw1 hfw1); (try (have : w.heap.size < w1.heap.size := by omega)); (try (have : w.heap.size + 1 < w1.heap.size := by omega)); (try (have : w.heap.size + 1 + 1 < w1.heap.size := by omega)); (try (have : w.heap.size + 1 + 1 + 1 < w1.heap.size := by omega))
    go_wp2_with (first | (go_at_call 52; refine (ha.out _ (by repeat' (first | (with_reducible exact Below.refl _ _) | (with_reducible assumption) | (with_reducible refine Below.alloc ?_ ?_ _) | (with_reducible refine Below.drew ?_) | (with_reducible refine Below.setCell ?_ ?_ _) | (with_reducible refine Below.stepB (by assumption) ?_ ?_) | go_size))).mono ?_; rintro e w2 ⟨rfl, hbw2⟩; obtain ⟨hzw2, hcw2, hfw2⟩ := bfacts hbw2; (try simp at hzw2 hcw2 hfw2); (try (have : w.heap.size < w2.heap.size := by omega)); (try (have : w.heap.size + 1 < w2.heap.size := by omega)); (try (have : w.heap.size + 1 + 1 < w2.heap.size := by omega)); (try (have : w.heap.size + 1 + 1 + 1 < w2.heap.size := by omega))) | (go_at_call 53; refine (hf.out _ (by repeat' (first | (with_reducible exact Below.refl _ _) | (with_reducible assumption) | (with_reducible refine Below.alloc ?_ ?_ _) | (with_reducible refine Below.drew ?_) | (with_reducible refine Below.setCell ?_ ?_ _) | (with_reducible refine Below.stepB (by assumption) ?_ ?_) | go_size)) w.heap.size (by omega) (by simp [*])).mono ?_; rintro e w3 ⟨rfl, hbw3⟩; obtain ⟨hzw3, hcw3, hfw3⟩ := bfacts hbw3; (try simp at hzw3 hcw3 hfw3); (try (have : w.heap.size < w3.heap.size := by omega)); (try (have : w.heap.size + 1 < w3.heap.size := by omega)); (try (have : w.heap.size + 1 + 1 < w3.heap.size := by omega)); (try (have : w.heap.size + 1 + 1 + 1 < w3.heap.size := by omega))))
    go_ret
    exact ⟨ret_bool (by simp), by repeat' (first | (with_reducible exact Below.refl _ _) | (with_reducible assumption) | (with_reducible refine Below.alloc ?_ ?_ _) | (with_reducible refine Below.drew ?_) | (with_reducible refine Below.setCell ?_ ?_ _) | (with_reducible refine Below.stepB (by assumption) ?_ ?_) | go_size)⟩
end Go.Proofs.Ytakkgagdbmlafaa
