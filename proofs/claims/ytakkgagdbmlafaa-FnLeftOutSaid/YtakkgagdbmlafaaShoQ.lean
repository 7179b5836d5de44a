/- Contract: the program's search for the shoalest of a list. -/
import Derived.Test.YtakkgagdbmlafaaShoP
import Derived.Test.YtakkgagdbmlafaaSelC
namespace Go.Proofs.Ytakkgagdbmlafaa
open Go.RowKit
def lowAt (f : Nat → SD) (i : Nat) : Int := lowV (f i)
def shoI (f : Nat → SD) (k : Nat) : Int := if k = 0 then -1 else (minI (lowAt f) k : Int)
theorem yesFn_any (s : SD) (w : World) : Calls Try.prog 62 #[.agg #[.int .i64 s.id, .int .i64 s.x, .int .i64 s.y, .int .i64 s.depth, .int .i64 s.doubt]] w fun e w' => e = .returned (.bool true) ∧ Below w.heap.size w w' := by
  go_enter Try.func62, Try.ntmps62
  go_wp2
  go_ret
  exact ⟨rfl, by repeat' (first | (with_reducible exact Below.refl _ _) | (with_reducible assumption) | (with_reducible refine Below.alloc ?_ ?_ _) | (with_reducible refine Below.drew ?_) | (with_reducible refine Below.setCell ?_ ?_ _) | (with_reducible refine Below.stepB (by assumption) ?_ ?_) | go_size)⟩
theorem shoI_pos {f : Nat → SD} {k : Nat} (h : 0 < k) : shoI f k = (minI (lowAt f) k : Int) := by rw [shoI, if_neg (by omega)]
theorem shoalest_any (A : Option Addr) (n c : Nat) (f : Nat → SD) (w : World) (hS : SlSD w A n f) (hn : n ≤ 1048576) (hok : ∀ k, k < n → okN (f k) = true) :
    Calls Try.prog 61 #[.slice A n c, .func (.func 62) #[] #[]] w fun e w' => e = .returned (.int .i64 (shoI f n)) ∧ Below w.heap.size w w' := by
  have HY := Lib.hid yesFn_any
  have HL := Lib.hid (fun k (hk : k < n) W => leastOf_any (f k) W (hok k hk))
  have HS := Lib.hid hS
  clear hok hS
  go_enter Try.func61, Try.ntmps61
  go_wp2
  go_loopw [5, 10] (fun v5 vc wr => ∃ k : Nat, k ≤ n ∧ vc = .int .i64 k ∧ v5 = .int .i64 (shoI f k) ∧ Below w.heap.size w wr) (fun _ vc _ => n - (intOf vc).toNat)
  case atStart => exact ⟨0, Nat.zero_le _, rfl, rfl, by repeat' (first | (with_reducible exact Below.refl _ _) | (with_reducible assumption) | (with_reducible refine Below.alloc ?_ ?_ _) | (with_reducible refine Below.drew ?_) | (with_reducible refine Below.setCell ?_ ?_ _) | (with_reducible refine Below.stepB (by assumption) ?_ ?_) | go_size)⟩
  case round =>
    obtain ⟨k, hk, rfl, rfl, hbr⟩ := hrel
    have hzr := hbr.size
    by_cases hlt : k < n
    · obtain ⟨b, off, rfl, hbl, hbl2, c0, c1, c2, c3, c4, hc⟩ := HS.out.at hbr hlt
      clear hc
      rcases Nat.eq_zero_or_pos k with h0 | hp
      · have e0 : shoI f k = -1 := by rw [h0]; rfl
        have HN : Hid (shoI f (k + 1) = (k : Int)) := by show _ = _; rw [h0]; rfl
        rw [e0]
        clear e0 h0
        go_wp2_with fail
        refine wp_region_later (by kernel_rfl) (by kernel_rfl) (fun hlx => ?_)
        repeat (go_big_quiet_step ((first | (go_at_call 62; with_reducible exact Later.call (HY.out _ _)))))
        refine wpQuiet_nil ?_
        clear hlx
        intro w4 hbw4
        obtain ⟨hzw4, hcw4, hfw4⟩ := bfacts hbw4; (try simp at hzw4 hcw4 hfw4); (try (have : w.heap.size < w4.heap.size := by omega)); (try (have : w.heap.size + 1 < w4.heap.size := by omega)); (try (have : w.heap.size + 1 + 1 < w4.heap.size := by omega)); (try (have : w.heap.size + 1 + 1 + 1 < w4.heap.size := by omega))
        go_wp2
        go_roundw
        case rel => exact ⟨k + 1, by omega, by go_num, by rw [HN.out], by repeat' (first | (with_reducible exact Below.refl _ _) | (with_reducible assumption) | (with_reducible refine Below.alloc ?_ ?_ _) | (with_reducible refine Below.drew ?_) | (with_reducible refine Below.setCell ?_ ?_ _) | (with_reducible refine Below.stepB (by assumption) ?_ ?_) | go_size)⟩
        case measure => simp [intOf]; omega
      · obtain ⟨m, hm⟩ : ∃ m, m = minI (lowAt f) k := ⟨_, rfl⟩
        have hmk : m < k := by rw [hm]; exact minI_lt hp
        have hmn : m < n := by omega
        obtain ⟨b', off', hbo, _, _, d0, d1, d2, d3, d4, hd⟩ := HS.out.at hbr hmn
        obtain ⟨rfl, rfl⟩ : b = b' ∧ off = off' := by simpa using hbo
        clear hbo hd
        rw [shoI_pos hp, ← hm]
        have HM := Lib.hid hm
        clear hm
        by_cases hlow : lowV (f k) < lowV (f m)
        · have HN : Hid (shoI f (k + 1) = (k : Int)) := by
            show _ = _
            rw [shoI_pos (by omega), minI, if_neg (by omega), ← HM.out, if_pos (show lowAt f k < lowAt f m from hlow)]
          have hdl : decide (lowV (f k) < lowV (f m)) = true := decide_eq_true hlow
          have hmi : ((m : Int) < 0) = False := by simp
          go_wp2_with fail
          refine wp_region_later (by kernel_rfl) (by kernel_rfl) (fun hlx => ?_)
          repeat (go_big_quiet_step ((first | (go_at_call 62; with_reducible exact Later.call (HY.out _ _)) | (go_at_call 74; with_reducible exact Later.call (HL.out k hlt _)) | (go_at_call 74; with_reducible exact Later.call (HL.out m hmn _)))))
          refine wpQuiet_nil ?_
          clear hlx
          intro w4 hbw4
          obtain ⟨hzw4, hcw4, hfw4⟩ := bfacts hbw4; (try simp at hzw4 hcw4 hfw4); (try (have : w.heap.size < w4.heap.size := by omega)); (try (have : w.heap.size + 1 < w4.heap.size := by omega)); (try (have : w.heap.size + 1 + 1 < w4.heap.size := by omega)); (try (have : w.heap.size + 1 + 1 + 1 < w4.heap.size := by omega))
          go_wp2
          go_roundw
          case rel => exact ⟨k + 1, by omega, by go_num, by rw [HN.out], by repeat' (first | (with_reducible exact Below.refl _ _) | (with_reducible assumption) | (with_reducible refine Below.alloc ?_ ?_ _) | (with_reducible refine Below.drew ?_) | (with_reducible refine Below.setCell ?_ ?_ _) | (with_reducible refine Below.stepB (by assumption) ?_ ?_) | go_size)⟩
          case measure => simp [intOf]; omega
        · have HN : Hid (shoI f (k + 1) = (m : Int)) := by
            show _ = _
            rw [shoI_pos (by omega), minI, if_neg (by omega), ← HM.out, if_neg (show ¬ lowAt f k < lowAt f m from hlow)]
          have hdl : decide (lowV (f k) < lowV (f m)) = false := decide_eq_false hlow
          have hmi : ((m : Int) < 0) = False := by simp
          clear hlow
          go_wp2_with fail
          refine wp_region_later (by kernel_rfl) (by kernel_rfl) (fun hlx => ?_)
          repeat (go_big_quiet_step ((first | (go_at_call 62; with_reducible exact Later.call (HY.out _ _)) | (go_at_call 74; with_reducible exact Later.call (HL.out k hlt _)) | (go_at_call 74; with_reducible exact Later.call (HL.out m hmn _)))))
          refine wpQuiet_nil ?_
          clear hlx
          intro w4 hbw4
          obtain ⟨hzw4, hcw4, hfw4⟩ := bfacts hbw4; (try simp at hzw4 hcw4 hfw4); (try (have : w.heap.size < w4.heap.size := by omega)); (try (have : w.heap.size + 1 < w4.heap.size := by omega)); (try (have : w.heap.size + 1 + 1 < w4.heap.size := by omega)); (try (have : w.heap.size + 1 + 1 + 1 < w4.heap.size := by omega))
          go_wp2
          go_roundw
          case rel => exact ⟨k + 1, by omega, by go_num, by rw [HN.out], by repeat' (first | (with_reducible exact Below.refl _ _) | (with_reducible assumption) | (with_reducible refine Below.alloc ?_ ?_ _) | (with_reducible refine Below.drew ?_) | (with_reducible refine Below.setCell ?_ ?_ _) | (with_reducible refine Below.stepB (by assumption) ?_ ?_) | go_size)⟩
          case measure => simp [intOf]; omega
    · obtain rfl : k = n := by omega
      go_wp2
      go_ret
      exact ⟨rfl, by repeat' (first | (with_reducible exact Below.refl _ _) | (with_reducible assumption) | (with_reducible refine Below.alloc ?_ ?_ _) | (with_reducible refine Below.drew ?_) | (with_reducible refine Below.setCell ?_ ?_ _) | (with_reducible refine Below.stepB (by assumption) ?_ ?_) | go_size)⟩
end Go.Proofs.Ytakkgagdbmlafaa
