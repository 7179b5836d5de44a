/- The program's pairs of close dangers, of a slice of any capacity. -/
import Derived.Test.YtclcgckledbpfaaDangerJ
namespace Go.Proofs.Ytclcgckledbpfaa
open Go.RowKit
set_option maxRecDepth 100000 in
set_option maxHeartbeats 1000000 in
theorem ClosePairsC_yes (A : Option Addr) (n c : Nat) (f : Nat → DG) (far : Int) (w : World) (hS : SlDG w A n f) (hn : n ≤ 1048576) (hc : n ≤ c) (hg : goodDAll f n = true) (hf : inB far 0 2000 = true) :
    Calls Try.prog 37 #[.slice A n c, .int .i64 far] w fun e w' => RowsOut w (pairsTo f far n n) true e w' := by
  obtain ⟨hgd, h10⟩ := goodDAll_iff.1 hg
  have hok := Lib.hid (goodD_lt hgd)
  have hA := fun W (hb : Below w.heap.size w W) => AreDangers_any A n c f W (hS.below hb) hn
  rw [hg] at hA
  have HA := Lib.hid hA
  obtain ⟨f1, f2⟩ := inB_iff.1 hf
  obtain ⟨q1, q2⟩ := far_bd hf
  obtain ⟨i0, hi0, hz0, hz1, hz2⟩ := info_parts row_info
  have HS := Lib.hid hS
  clear hA hS hg hgd
  go_enter Try.func37, Try.ntmps37
  go_wp2_with fail
  refine (HA.out _ (by repeat' (first | (with_reducible exact Below.refl _ _) | (with_reducible assumption) | (with_reducible refine Below.alloc ?_ ?_ _) | (with_reducible refine Below.drew ?_) | (with_reducible refine Below.setCell ?_ ?_ _) | (with_reducible refine Below.stepB (by assumption) ?_ ?_) | go_size))).mono ?_
  rintro e w1 ⟨rfl, hbw1⟩
  obtain ⟨hzw1, hcw1, hfw1⟩ := bfacts hbw1; (try simp at hzw1 hcw1 hfw1); (try (have : w.heap.size < w1.heap.size := by omega)); (try (have : w.heap.size + 1 < w1.heap.size := by omega)); (try (have : w.heap.size + 1 + 1 < w1.heap.size := by omega)); (try (have : w.heap.size + 1 + 1 + 1 < w1.heap.size := by omega))
  go_wp2_with (go_at_call 70; refine (isFar_any _ _).mono ?_; rintro e w' ⟨rfl, rfl⟩)
  have hO0 := Lib.hid (RowsIn.empty w1)
  go_loopw [6, 22] (fun v6 v22 wr => ∃ i : Nat, i ≤ n ∧ v22 = .int .i64 i ∧ Hid (RowsIn wr w1.heap.size v6 (pairsTo f far n i)) ∧ Below w.heap.size w wr ∧ w1.heap.size ≤ wr.heap.size) (fun _ v22 _ => n - (intOf v22).toNat)
  case atStart => exact ⟨0, Nat.zero_le _, rfl, hO0.out, by repeat' (first | (with_reducible exact Below.refl _ _) | (with_reducible assumption) | (with_reducible refine Below.alloc ?_ ?_ _) | (with_reducible refine Below.drew ?_) | (with_reducible refine Below.setCell ?_ ?_ _) | (with_reducible refine Below.stepB (by assumption) ?_ ?_) | go_size), by go_size⟩
  case round =>
    clear hO0
    obtain ⟨i, hi, rfl, hO, hbr, hzr1⟩ := hrel
    have hzr := hbr.size
    by_cases hlt : i < n
    · have hoki := Lib.hid (hok.out i hlt)
      obtain ⟨b, off, rfl, hbl, hbl2, c0, c1, c2, c3, c4, c5, c6, -⟩ := HS.out.at hbr hlt
      have HBR := Lib.hid hbr
      clear hbr
      rcases Nat.eq_or_lt_of_le (show i + 1 ≤ n from hlt) with hlast | hlast
      · subst hlast
        rcases Nat.eq_or_lt_of_le hc with hce | hce
        · subst hce
          go_wp2
          go_loopw [6, 32] (fun v6 v32 wq => v32 = .int .i64 0 ∧ Hid (RowsIn wq w1.heap.size v6 (pairsAt f far (i + 1) i 0)) ∧ Below w1.heap.size wr wq) (fun _ _ _ => 0)
          case atStart => exact ⟨rfl, by rw [pairsAt_zero]; exact hO.out.below (by repeat' (first | (with_reducible exact Below.refl _ _) | (with_reducible assumption) | (with_reducible refine Below.alloc ?_ ?_ _) | (with_reducible refine Below.drew ?_) | (with_reducible refine Below.setCell ?_ ?_ _) | (with_reducible refine Below.stepB (by assumption) ?_ ?_) | go_size)), by repeat' (first | (with_reducible exact Below.refl _ _) | (with_reducible assumption) | (with_reducible refine Below.alloc ?_ ?_ _) | (with_reducible refine Below.drew ?_) | (with_reducible refine Below.setCell ?_ ?_ _) | (with_reducible refine Below.stepB (by assumption) ?_ ?_) | go_size)⟩
          case round =>
            rename World => wq
            obtain ⟨rfl, hQ, hbq⟩ := hrel
            have hzq := hbq.size
            clear hO
            go_wp2
            go_roundw
            case rel => exact ⟨i + 1, by omega, by go_num, by rw [pairsAt_last, Nat.sub_self]; exact hQ, by have := HBR.out; repeat' (first | (with_reducible exact Below.refl _ _) | (with_reducible assumption) | (with_reducible refine Below.alloc ?_ ?_ _) | (with_reducible refine Below.drew ?_) | (with_reducible refine Below.setCell ?_ ?_ _) | (with_reducible refine Below.stepB (by assumption) ?_ ?_) | go_size), by omega⟩
            case measure => simp [intOf]
        · have hne2 : ¬ c = i + 1 := by omega
          go_wp2
          go_loopw [6, 32] (fun v6 v32 wq => v32 = .int .i64 0 ∧ Hid (RowsIn wq w1.heap.size v6 (pairsAt f far (i + 1) i 0)) ∧ Below w1.heap.size wr wq) (fun _ _ _ => 0)
          case atStart => exact ⟨rfl, by rw [pairsAt_zero]; exact hO.out.below (by repeat' (first | (with_reducible exact Below.refl _ _) | (with_reducible assumption) | (with_reducible refine Below.alloc ?_ ?_ _) | (with_reducible refine Below.drew ?_) | (with_reducible refine Below.setCell ?_ ?_ _) | (with_reducible refine Below.stepB (by assumption) ?_ ?_) | go_size)), by repeat' (first | (with_reducible exact Below.refl _ _) | (with_reducible assumption) | (with_reducible refine Below.alloc ?_ ?_ _) | (with_reducible refine Below.drew ?_) | (with_reducible refine Below.setCell ?_ ?_ _) | (with_reducible refine Below.stepB (by assumption) ?_ ?_) | go_size)⟩
          case round =>
            rename World => wq
            obtain ⟨rfl, hQ, hbq⟩ := hrel
            have hzq := hbq.size
            clear hO
            go_wp2
            go_roundw
            case rel => exact ⟨i + 1, by omega, by go_num, by rw [pairsAt_last, Nat.sub_self]; exact hQ, by have := HBR.out; repeat' (first | (with_reducible exact Below.refl _ _) | (with_reducible assumption) | (with_reducible refine Below.alloc ?_ ?_ _) | (with_reducible refine Below.drew ?_) | (with_reducible refine Below.setCell ?_ ?_ _) | (with_reducible refine Below.stepB (by assumption) ?_ ?_) | go_size), by omega⟩
            case measure => simp [intOf]
      · have hne : ¬ n = i + 1 := by omega
        have hne2 : ¬ c = i + 1 := by omega
        go_wp2
        go_loopw [6, 32] (fun v6 v32 wq => ∃ j : Nat, j ≤ n - (i + 1) ∧ v32 = .int .i64 j ∧ Hid (RowsIn wq w1.heap.size v6 (pairsAt f far n i j)) ∧ Blk wq wr.heap.size 29 (f i).arr ∧ Below w1.heap.size wr wq) (fun _ v32 _ => n - (intOf v32).toNat)
        case atStart => exact ⟨0, Nat.zero_le _, rfl, by rw [pairsAt_zero]; exact hO.out.below (by repeat' (first | (with_reducible exact Below.refl _ _) | (with_reducible assumption) | (with_reducible refine Below.alloc ?_ ?_ _) | (with_reducible refine Below.drew ?_) | (with_reducible refine Below.setCell ?_ ?_ _) | (with_reducible refine Below.stepB (by assumption) ?_ ?_) | go_size)), Blk.new _ _ _, by repeat' (first | (with_reducible exact Below.refl _ _) | (with_reducible assumption) | (with_reducible refine Below.alloc ?_ ?_ _) | (with_reducible refine Below.drew ?_) | (with_reducible refine Below.setCell ?_ ?_ _) | (with_reducible refine Below.stepB (by assumption) ?_ ?_) | go_size)⟩
        case round =>
          rename World => wq
          obtain ⟨j, hj, rfl, hQ, hB, hbq⟩ := hrel
          clear hO
          have hzq := hbq.size
          obtain ⟨A6, c6', hv6⟩ := RowsIn.form hQ.out
          subst hv6
          by_cases hjl : j < n - (i + 1)
          · have hokk := Lib.hid (hok.out (i + 1 + j) (by omega))
            obtain ⟨hl8, a0, a1, a2, a3, a4, a5, a6, hf8⟩ := BlkDG.cells hB
            have HB := Lib.hid hB
            have HBQ := Lib.hid (show Below w.heap.size w wq from by have := HBR.out; repeat' (first | (with_reducible exact Below.refl _ _) | (with_reducible assumption) | (with_reducible refine Below.alloc ?_ ?_ _) | (with_reducible refine Below.drew ?_) | (with_reducible refine Below.setCell ?_ ?_ _) | (with_reducible refine Below.stepB (by assumption) ?_ ?_) | go_size))
            obtain ⟨b', off', hA', _, _, d0, d1, d2, d3, d4, d5, d6, -⟩ := HS.out.at HBQ.out (show i + 1 + j < n by omega)
            obtain ⟨rfl, rfl⟩ : b = b' ∧ off = off' := by simpa using hA'
            have e7 : off + (i + 1 + j) * 7 = off + (i + 1) * 7 + j * 7 := by omega
            rw [e7] at d0 d1 d2 d3 d4 d5 d6
            have hll : (pairsAt f far n i j).length ≤ 1048576 := pairsAt_len h10 (by omega) (by omega)
            clear hB hA' e7 c0 c1 c2 c3 c4 c5 c6
            have hblq : b < wq.heap.size := by omega
            by_cases hk : (f i).kind = (f (i + 1 + j)).kind
            · have hkb : ((f i).kind == (f (i + 1 + j)).kind) = true := by simpa using hk
              have HK := Lib.hid hk
              clear hk
              go_wp2_with fail
              refine (squareOf_any (f i).x (f i).y (f (i + 1 + j)).x (f (i + 1 + j)).y _ (okD_spot hoki.out) (okD_spot hokk.out)).mono ?_
              rintro e w3 ⟨rfl, hbw3⟩
              obtain ⟨hzw3, hcw3, hfw3⟩ := bfacts hbw3; (try simp at hzw3 hcw3 hfw3); (try (have : w.heap.size < w3.heap.size := by omega)); (try (have : w.heap.size + 1 < w3.heap.size := by omega)); (try (have : w.heap.size + 1 + 1 < w3.heap.size := by omega)); (try (have : w.heap.size + 1 + 1 + 1 < w3.heap.size := by omega))
              have hl83 : wr.heap.size < w3.heap.size := by omega
              by_cases hq : sqD (f i).x (f i).y (f (i + 1 + j)).x (f (i + 1 + j)).y ≤ far * far
              · have hcl : closeP f far i (i + 1 + j) = true := by simp [closeP, HK.out, hq]
                have HROW := Lib.hid (pairsAt_hit (n := n) hcl)
                clear hcl
                go_wp2_with (at_builtin; refine wpList_append_row wq _ rfl _ _ 53 rfl w1.heap.size i0 Try.underlying53 hi0 hz0 hz1 hz2 _ _ rfl hQ.out ?_ w3.heap.size (f i).id (f (i + 1 + j)).id ?_ ?_ _ _ rfl ?_ hll ?_ ?_; go_must (focus (repeat' (first | (with_reducible exact Below.refl _ _) | (with_reducible assumption) | (with_reducible refine Below.alloc ?_ ?_ _) | (with_reducible refine Below.drew ?_) | (with_reducible refine Below.setCell ?_ ?_ _) | (with_reducible refine Below.stepB (by assumption) ?_ ?_) | go_size))); go_must (focus omega); go_must (focus exact (blk_newR w3 _ _ rfl).alloc _); go_must (focus (simp [rowV]; done)); go_must (focus omega); intro v9 w4 hO4 hbw4 hkp4; have hB4 := hkp4 _ _ _ (by decide) (show Blk ((w3.alloc (.cells #[.int .i64 (f i).id, .int .i64 (f (i + 1 + j)).id] 3)).alloc (.cells #[.slice (some ⟨w3.heap.size, 0, none⟩) 2 2] 43)) wr.heap.size 29 (f i).arr from ((HB.out.below (B := wq.heap.size) (by repeat' (first | (with_reducible exact Below.refl _ _) | (with_reducible assumption) | (with_reducible refine Below.alloc ?_ ?_ _) | (with_reducible refine Below.drew ?_) | (with_reducible refine Below.setCell ?_ ?_ _) | (with_reducible refine Below.stepB (by assumption) ?_ ?_) | go_size)) hl8).alloc _).alloc _); clear hkp4; have hz4 := hbw4.size; (try simp at hz4))
                go_roundw
                case rel => exact ⟨j + 1, by omega, by go_num, by rw [HROW.out]; exact hO4, hB4, by repeat' (first | (with_reducible exact Below.refl _ _) | (with_reducible assumption) | (with_reducible refine Below.alloc ?_ ?_ _) | (with_reducible refine Below.drew ?_) | (with_reducible refine Below.setCell ?_ ?_ _) | (with_reducible refine Below.stepB (by assumption) ?_ ?_) | go_size)⟩
                case measure => simp [intOf]; omega
              · have hcl : closeP f far i (i + 1 + j) = false := by simp [closeP, hq]
                have HROW := Lib.hid (pairsAt_miss (n := n) hcl)
                clear hcl
                go_wp2
                go_roundw
                case rel => exact ⟨j + 1, by omega, by go_num, by rw [HROW.out]; exact hQ.out.below (by repeat' (first | (with_reducible exact Below.refl _ _) | (with_reducible assumption) | (with_reducible refine Below.alloc ?_ ?_ _) | (with_reducible refine Below.drew ?_) | (with_reducible refine Below.setCell ?_ ?_ _) | (with_reducible refine Below.stepB (by assumption) ?_ ?_) | go_size)), HB.out.below (B := wq.heap.size) (by repeat' (first | (with_reducible exact Below.refl _ _) | (with_reducible assumption) | (with_reducible refine Below.alloc ?_ ?_ _) | (with_reducible refine Below.drew ?_) | (with_reducible refine Below.setCell ?_ ?_ _) | (with_reducible refine Below.stepB (by assumption) ?_ ?_) | go_size)) hl8, by repeat' (first | (with_reducible exact Below.refl _ _) | (with_reducible assumption) | (with_reducible refine Below.alloc ?_ ?_ _) | (with_reducible refine Below.drew ?_) | (with_reducible refine Below.setCell ?_ ?_ _) | (with_reducible refine Below.stepB (by assumption) ?_ ?_) | go_size)⟩
                case measure => simp [intOf]; omega
            · have hcl : closeP f far i (i + 1 + j) = false := by simp [closeP, hk]
              have HROW := Lib.hid (pairsAt_miss (n := n) hcl)
              have hkb : ((f i).kind == (f (i + 1 + j)).kind) = false := by simpa using hk
              clear hcl hk
              go_wp2
              go_roundw
              case rel => exact ⟨j + 1, by omega, by go_num, by rw [HROW.out]; exact hQ.out.below (by repeat' (first | (with_reducible exact Below.refl _ _) | (with_reducible assumption) | (with_reducible refine Below.alloc ?_ ?_ _) | (with_reducible refine Below.drew ?_) | (with_reducible refine Below.setCell ?_ ?_ _) | (with_reducible refine Below.stepB (by assumption) ?_ ?_) | go_size)), HB.out.below (B := wq.heap.size) (by repeat' (first | (with_reducible exact Below.refl _ _) | (with_reducible assumption) | (with_reducible refine Below.alloc ?_ ?_ _) | (with_reducible refine Below.drew ?_) | (with_reducible refine Below.setCell ?_ ?_ _) | (with_reducible refine Below.stepB (by assumption) ?_ ?_) | go_size)) hl8, by repeat' (first | (with_reducible exact Below.refl _ _) | (with_reducible assumption) | (with_reducible refine Below.alloc ?_ ?_ _) | (with_reducible refine Below.drew ?_) | (with_reducible refine Below.setCell ?_ ?_ _) | (with_reducible refine Below.stepB (by assumption) ?_ ?_) | go_size)⟩
              case measure => simp [intOf]; omega
          · obtain rfl : j = n - (i + 1) := by omega
            go_wp2
            go_roundw
            case rel => exact ⟨i + 1, by omega, by go_num, by rw [pairsAt_last]; exact hQ, by have := HBR.out; repeat' (first | (with_reducible exact Below.refl _ _) | (with_reducible assumption) | (with_reducible refine Below.alloc ?_ ?_ _) | (with_reducible refine Below.drew ?_) | (with_reducible refine Below.setCell ?_ ?_ _) | (with_reducible refine Below.stepB (by assumption) ?_ ?_) | go_size), by omega⟩
            case measure => simp [intOf]; omega
    · obtain rfl : i = n := by omega
      obtain ⟨A6, c6, rfl⟩ := RowsIn.form hO.out
      have HO := Lib.hid hO
      clear hO
      go_wp2
      go_ret2
      exact RowsOut.row HO.out.out rfl rfl (by omega) (by repeat' (first | (with_reducible exact Below.refl _ _) | (with_reducible assumption) | (with_reducible refine Below.alloc ?_ ?_ _) | (with_reducible refine Below.drew ?_) | (with_reducible refine Below.setCell ?_ ?_ _) | (with_reducible refine Below.stepB (by assumption) ?_ ?_) | go_size))
theorem ClosePairsC_any (A : Option Addr) (n c : Nat) (f : Nat → DG) (far : Int) (w : World) (hS : SlDG w A n f) (hn : n ≤ 1048576) (hc : n ≤ c) :
    Calls Try.prog 37 #[.slice A n c, .int .i64 far] w fun e w' => RowsOut w (pairsL f far n) (pairsOk f far n) e w' := by
  rcases Bool.eq_false_or_eq_true (pairsOk f far n) with h | h
  · have h0 := h
    simp only [pairsOk, Bool.and_eq_true] at h0
    rw [pairsL, h]
    exact ClosePairsC_yes A n c f far w hS hn hc h0.1 h0.2
  · exact ClosePairs_no A n c f far w hS hn h
end Go.Proofs.Ytclcgckledbpfaa
