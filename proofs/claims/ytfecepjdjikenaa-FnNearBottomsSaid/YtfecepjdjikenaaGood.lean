/- Contracts of the functions on a list of samples: valid or not. -/
import Derived.Test.YtfecepjdjikenaaHold
import Derived.LoopN
namespace Go.Proofs.Ytfecepjdjikenaa
open Go.RowKit
def BS.cell (s : BS) : Nat → Value
  | 0 => .int .i64 s.id
  | 1 => .int .i64 s.x
  | 2 => .int .i64 s.y
  | 3 => .int .i64 s.mud
  | 4 => .int .i64 s.sand
  | _ => .int .i64 s.rock
def SlS (w : World) (A : Option Addr) (n : Nat) (f : Nat → BS) : Prop := Sl w 6 A n (fun i j => (f i).cell j)
/-- the first k of the samples are valid and their Ids ascend -/
def goodUpto (f : Nat → BS) : Nat → Bool
  | 0 => true
  | k + 1 => goodUpto f k && okS (f k) && (decide (k = 0) || decide ((f (k - 1)).id < (f k).id))
theorem SlS.at {w wr : World} {A : Option Addr} {n k : Nat} {f : Nat → BS} (hS : SlS w A n f) (hb : Below w.heap.size w wr) (hk : k < n) : ∃ b off, A = some ⟨b, off, none⟩ ∧ b < w.heap.size ∧ b < wr.heap.size ∧
    wr.cell? ⟨b, off + k * 6, none⟩ = some (.int .i64 (f k).id) ∧ wr.cell? ⟨b, off + k * 6 + 1, none⟩ = some (.int .i64 (f k).x) ∧ wr.cell? ⟨b, off + k * 6 + 2, none⟩ = some (.int .i64 (f k).y) ∧
    wr.cell? ⟨b, off + k * 6 + 3, none⟩ = some (.int .i64 (f k).mud) ∧ wr.cell? ⟨b, off + k * 6 + 4, none⟩ = some (.int .i64 (f k).sand) ∧ wr.cell? ⟨b, off + k * 6 + 5, none⟩ = some (.int .i64 (f k).rock) ∧ Hid (∀ m, m < n → wr.cell? ⟨b, off + m * 6, none⟩ = some (.int .i64 (f m).id)) := by
  obtain ⟨b, off, hA, hbl, hc⟩ := hS (by omega)
  have hz := hb.size
  exact ⟨b, off, hA, hbl, by omega, (hb.cell (p := ⟨b, _, none⟩) hbl).trans (hc k 0 hk (by decide)), (hb.cell (p := ⟨b, _, none⟩) hbl).trans (hc k 1 hk (by decide)), (hb.cell (p := ⟨b, _, none⟩) hbl).trans (hc k 2 hk (by decide)),
    (hb.cell (p := ⟨b, _, none⟩) hbl).trans (hc k 3 hk (by decide)), (hb.cell (p := ⟨b, _, none⟩) hbl).trans (hc k 4 hk (by decide)), (hb.cell (p := ⟨b, _, none⟩) hbl).trans (hc k 5 hk (by decide)), fun m hm => (hb.cell (p := ⟨b, _, none⟩) hbl).trans (hc m 0 hm (by decide))⟩
theorem good_ok {f : Nat → BS} {k : Nat} (hg : goodUpto f k = true) (h : okS (f k) = false) : ∀ n, k < n → goodUpto f n = false
  | 0, h0 => absurd h0 (by omega)
  | n + 1, h0 => by
    rcases Nat.lt_or_ge k n with h1 | h1
    · simp [goodUpto, good_ok hg h n h1]
    · obtain rfl : k = n := by omega
      simp [goodUpto, h]
theorem good_id {f : Nat → BS} {m : Nat} (h : (f (m + 1)).id ≤ (f m).id) : ∀ n, m + 1 < n → goodUpto f n = false
  | 0, h0 => absurd h0 (by omega)
  | n + 1, h0 => by
    rcases Nat.lt_or_ge (m + 1) n with h1 | h1
    · simp [goodUpto, good_id h n h1]
    · obtain rfl : n = m + 1 := by omega
      simp [goodUpto]; omega
theorem AreSamples_any (A : Option Addr) (n c : Nat) (f : Nat → BS) (w : World) (hS : SlS w A n f) (hn : n ≤ 1048576) : Calls Try.prog 25 #[.slice A n c] w
    fun e w' => e = .returned (.bool (goodUpto f n && decide (n ≤ 12))) ∧ Below w.heap.size w w' := by
  go_enter Try.func25, Try.ntmps25
  go_wp2
  go_loopw [7] (fun v7 wr => ∃ k : Nat, k ≤ n ∧ v7 = .int .i64 k ∧ goodUpto f k = true ∧ Below w.heap.size w wr) (fun v7 _ => n - (intOf v7).toNat)
  case atStart => exact ⟨0, Nat.zero_le _, rfl, rfl, Below.refl _ _⟩
  case round =>
    obtain ⟨k, hk, rfl, hg, hbr⟩ := hrel
    have hzr := hbr.size
    by_cases hlt : k < n
    · obtain ⟨b, off, rfl, hbl, hbl2, c0, c1, c2, c3, c4, c5, hc⟩ := hS.at hbr hlt
      clear hS
      rcases Bool.eq_false_or_eq_true (okS (f k)) with h | h
      · rcases Nat.eq_zero_or_pos k with rfl | hpos
        · simp only [Nat.zero_mul, Nat.add_zero] at c0 c1 c2 c3 c4 c5
          clear hg hc
          go_wp2
          refine wp_region_later (by kernel_rfl) (by kernel_rfl) (fun hlx => ?_)
          repeat (go_big_quiet_step ((go_at_call 17; exact Later.call (IsSample_any (f 0) _))))
          refine wpQuiet_nil ?_
          clear hlx
          intro w1 hbw1
          obtain ⟨hzw1, hcw1, hfw1⟩ := bfacts hbw1; (try simp at hzw1 hcw1 hfw1); (try (have : w.heap.size < w1.heap.size := by omega)); (try (have : w.heap.size + 1 < w1.heap.size := by omega)); (try (have : w.heap.size + 1 + 1 < w1.heap.size := by omega)); (try (have : w.heap.size + 1 + 1 + 1 < w1.heap.size := by omega))
          go_wp2
          go_roundw
          case rel => exact ⟨1, by omega, rfl, by simp [goodUpto, h], by repeat' (first | (with_reducible exact Below.refl _ _) | (with_reducible assumption) | (with_reducible refine Below.alloc ?_ ?_ _) | (with_reducible refine Below.drew ?_) | (with_reducible refine Below.setCell ?_ ?_ _) | (with_reducible refine Below.stepB (by assumption) ?_ ?_) | go_size)⟩
          case measure => simp [intOf]; omega
        · obtain ⟨m, rfl⟩ : ∃ m, k = m + 1 := ⟨k - 1, by omega⟩
          have hp := hc.out m (by omega)
          clear hc
          have HG := Lib.hid hg
          clear hg
          by_cases hid : (f m).id < (f (m + 1)).id
          · go_wp2
            refine wp_region_later (by kernel_rfl) (by kernel_rfl) (fun hlx => ?_)
            repeat (go_big_quiet_step ((go_at_call 17; exact Later.call (IsSample_any (f (m + 1)) _))))
            refine wpQuiet_nil ?_
            clear hlx
            intro w1 hbw1
            obtain ⟨hzw1, hcw1, hfw1⟩ := bfacts hbw1; (try simp at hzw1 hcw1 hfw1); (try (have : w.heap.size < w1.heap.size := by omega)); (try (have : w.heap.size + 1 < w1.heap.size := by omega)); (try (have : w.heap.size + 1 + 1 < w1.heap.size := by omega)); (try (have : w.heap.size + 1 + 1 + 1 < w1.heap.size := by omega))
            go_wp2
            go_roundw
            case rel => exact ⟨m + 1 + 1, by omega, by go_num, by have := HG.out; simp only [goodUpto] at this ⊢; simp [this, h, hid], by repeat' (first | (with_reducible exact Below.refl _ _) | (with_reducible assumption) | (with_reducible refine Below.alloc ?_ ?_ _) | (with_reducible refine Below.drew ?_) | (with_reducible refine Below.setCell ?_ ?_ _) | (with_reducible refine Below.stepB (by assumption) ?_ ?_) | go_size)⟩
            case measure => simp [intOf]; omega
          · have hgn := Lib.hid (good_id (f := f) (by omega) n hlt)
            go_wp2
            refine wp_region_later (by kernel_rfl) (by kernel_rfl) (fun hlx => ?_)
            repeat (go_big_quiet_step ((go_at_call 17; exact Later.call (IsSample_any (f (m + 1)) _))))
            refine wpQuiet_nil ?_
            clear hlx
            intro w1 hbw1
            obtain ⟨hzw1, hcw1, hfw1⟩ := bfacts hbw1; (try simp at hzw1 hcw1 hfw1); (try (have : w.heap.size < w1.heap.size := by omega)); (try (have : w.heap.size + 1 < w1.heap.size := by omega)); (try (have : w.heap.size + 1 + 1 < w1.heap.size := by omega)); (try (have : w.heap.size + 1 + 1 + 1 < w1.heap.size := by omega))
            go_wp2
            go_ret
            exact ⟨ret_bool (by rw [hgn.out]; rfl), by repeat' (first | (with_reducible exact Below.refl _ _) | (with_reducible assumption) | (with_reducible refine Below.alloc ?_ ?_ _) | (with_reducible refine Below.drew ?_) | (with_reducible refine Below.setCell ?_ ?_ _) | (with_reducible refine Below.stepB (by assumption) ?_ ?_) | go_size)⟩
      · have hgn := Lib.hid (good_ok hg h n hlt)
        clear hg hc
        go_wp2
        refine wp_region_later (by kernel_rfl) (by kernel_rfl) (fun hlx => ?_)
        repeat (go_big_quiet_step ((go_at_call 17; exact Later.call (IsSample_any (f k) _))))
        refine wpQuiet_nil ?_
        clear hlx
        intro w1 hbw1
        obtain ⟨hzw1, hcw1, hfw1⟩ := bfacts hbw1; (try simp at hzw1 hcw1 hfw1); (try (have : w.heap.size < w1.heap.size := by omega)); (try (have : w.heap.size + 1 < w1.heap.size := by omega)); (try (have : w.heap.size + 1 + 1 < w1.heap.size := by omega)); (try (have : w.heap.size + 1 + 1 + 1 < w1.heap.size := by omega))
        go_wp2
        go_ret
        exact ⟨ret_bool (by rw [hgn.out]; rfl), by repeat' (first | (with_reducible exact Below.refl _ _) | (with_reducible assumption) | (with_reducible refine Below.alloc ?_ ?_ _) | (with_reducible refine Below.drew ?_) | (with_reducible refine Below.setCell ?_ ?_ _) | (with_reducible refine Below.stepB (by assumption) ?_ ?_) | go_size)⟩
    · obtain rfl : k = n := by omega
      have HG := Lib.hid hg
      clear hg hS
      go_wp2
      go_ret
      exact ⟨ret_bool (by rw [HG.out]; simp; omega), by repeat' (first | (with_reducible exact Below.refl _ _) | (with_reducible assumption) | (with_reducible refine Below.alloc ?_ ?_ _) | (with_reducible refine Below.drew ?_) | (with_reducible refine Below.setCell ?_ ?_ _) | (with_reducible refine Below.stepB (by assumption) ?_ ?_) | go_size)⟩
theorem l18Good_any (A : Option Addr) (n c : Nat) (f : Nat → BS) (w : World) (hS : SlS w A n f) (hn : n ≤ 1048576) : Calls Try.prog 68 #[.slice A n c] w
    fun e w' => e = .returned (.bool (goodUpto f n && decide (n ≤ 12))) ∧ Below w.heap.size w w' := by
  go_enter Try.func68, Try.ntmps68
  go_wp2
  go_loopw [3] (fun v7 wr => ∃ k : Nat, k ≤ n ∧ v7 = .int .i64 k ∧ goodUpto f k = true ∧ Below w.heap.size w wr) (fun v7 _ => n - (intOf v7).toNat)
  case atStart => exact ⟨0, Nat.zero_le _, rfl, rfl, Below.refl _ _⟩
  case round =>
    obtain ⟨k, hk, rfl, hg, hbr⟩ := hrel
    have hzr := hbr.size
    by_cases hlt : k < n
    · obtain ⟨b, off, rfl, hbl, hbl2, c0, c1, c2, c3, c4, c5, hc⟩ := hS.at hbr hlt
      clear hS
      rcases Bool.eq_false_or_eq_true (okS (f k)) with h | h
      · rcases Nat.eq_zero_or_pos k with rfl | hpos
        · simp only [Nat.zero_mul, Nat.add_zero] at c0 c1 c2 c3 c4 c5
          clear hg hc
          go_wp2
          refine wp_region_later (by kernel_rfl) (by kernel_rfl) (fun hlx => ?_)
          repeat (go_big_quiet_step ((go_at_call 62; exact Later.call (l18One_any (f 0) _))))
          refine wpQuiet_nil ?_
          clear hlx
          intro w1 hbw1
          obtain ⟨hzw1, hcw1, hfw1⟩ := bfacts hbw1; (try simp at hzw1 hcw1 hfw1); (try (have : w.heap.size < w1.heap.size := by omega)); (try (have : w.heap.size + 1 < w1.heap.size := by omega)); (try (have : w.heap.size + 1 + 1 < w1.heap.size := by omega)); (try (have : w.heap.size + 1 + 1 + 1 < w1.heap.size := by omega))
          go_wp2
          go_roundw
          case rel => exact ⟨1, by omega, rfl, by simp [goodUpto, h], by repeat' (first | (with_reducible exact Below.refl _ _) | (with_reducible assumption) | (with_reducible refine Below.alloc ?_ ?_ _) | (with_reducible refine Below.drew ?_) | (with_reducible refine Below.setCell ?_ ?_ _) | (with_reducible refine Below.stepB (by assumption) ?_ ?_) | go_size)⟩
          case measure => simp [intOf]; omega
        · obtain ⟨m, rfl⟩ : ∃ m, k = m + 1 := ⟨k - 1, by omega⟩
          have hp := hc.out m (by omega)
          clear hc
          have HG := Lib.hid hg
          clear hg
          by_cases hid : (f m).id < (f (m + 1)).id
          · go_wp2
            refine wp_region_later (by kernel_rfl) (by kernel_rfl) (fun hlx => ?_)
            repeat (go_big_quiet_step ((go_at_call 62; exact Later.call (l18One_any (f (m + 1)) _))))
            refine wpQuiet_nil ?_
            clear hlx
            intro w1 hbw1
            obtain ⟨hzw1, hcw1, hfw1⟩ := bfacts hbw1; (try simp at hzw1 hcw1 hfw1); (try (have : w.heap.size < w1.heap.size := by omega)); (try (have : w.heap.size + 1 < w1.heap.size := by omega)); (try (have : w.heap.size + 1 + 1 < w1.heap.size := by omega)); (try (have : w.heap.size + 1 + 1 + 1 < w1.heap.size := by omega))
            go_wp2
            go_roundw
            case rel => exact ⟨m + 1 + 1, by omega, by go_num, by have := HG.out; simp only [goodUpto] at this ⊢; simp [this, h, hid], by repeat' (first | (with_reducible exact Below.refl _ _) | (with_reducible assumption) | (with_reducible refine Below.alloc ?_ ?_ _) | (with_reducible refine Below.drew ?_) | (with_reducible refine Below.setCell ?_ ?_ _) | (with_reducible refine Below.stepB (by assumption) ?_ ?_) | go_size)⟩
            case measure => simp [intOf]; omega
          · have hgn := Lib.hid (good_id (f := f) (by omega) n hlt)
            go_wp2
            refine wp_region_later (by kernel_rfl) (by kernel_rfl) (fun hlx => ?_)
            repeat (go_big_quiet_step ((go_at_call 62; exact Later.call (l18One_any (f (m + 1)) _))))
            refine wpQuiet_nil ?_
            clear hlx
            intro w1 hbw1
            obtain ⟨hzw1, hcw1, hfw1⟩ := bfacts hbw1; (try simp at hzw1 hcw1 hfw1); (try (have : w.heap.size < w1.heap.size := by omega)); (try (have : w.heap.size + 1 < w1.heap.size := by omega)); (try (have : w.heap.size + 1 + 1 < w1.heap.size := by omega)); (try (have : w.heap.size + 1 + 1 + 1 < w1.heap.size := by omega))
            go_wp2
            go_ret
            exact ⟨ret_bool (by rw [hgn.out]; rfl), by repeat' (first | (with_reducible exact Below.refl _ _) | (with_reducible assumption) | (with_reducible refine Below.alloc ?_ ?_ _) | (with_reducible refine Below.drew ?_) | (with_reducible refine Below.setCell ?_ ?_ _) | (with_reducible refine Below.stepB (by assumption) ?_ ?_) | go_size)⟩
      · have hgn := Lib.hid (good_ok hg h n hlt)
        clear hg hc
        go_wp2
        refine wp_region_later (by kernel_rfl) (by kernel_rfl) (fun hlx => ?_)
        repeat (go_big_quiet_step ((go_at_call 62; exact Later.call (l18One_any (f k) _))))
        refine wpQuiet_nil ?_
        clear hlx
        intro w1 hbw1
        obtain ⟨hzw1, hcw1, hfw1⟩ := bfacts hbw1; (try simp at hzw1 hcw1 hfw1); (try (have : w.heap.size < w1.heap.size := by omega)); (try (have : w.heap.size + 1 < w1.heap.size := by omega)); (try (have : w.heap.size + 1 + 1 < w1.heap.size := by omega)); (try (have : w.heap.size + 1 + 1 + 1 < w1.heap.size := by omega))
        go_wp2
        go_ret
        exact ⟨ret_bool (by rw [hgn.out]; rfl), by repeat' (first | (with_reducible exact Below.refl _ _) | (with_reducible assumption) | (with_reducible refine Below.alloc ?_ ?_ _) | (with_reducible refine Below.drew ?_) | (with_reducible refine Below.setCell ?_ ?_ _) | (with_reducible refine Below.stepB (by assumption) ?_ ?_) | go_size)⟩
    · obtain rfl : k = n := by omega
      have HG := Lib.hid hg
      clear hg hS
      go_wp2
      go_ret
      exact ⟨ret_bool (by rw [HG.out]; simp; omega), by repeat' (first | (with_reducible exact Below.refl _ _) | (with_reducible assumption) | (with_reducible refine Below.alloc ?_ ?_ _) | (with_reducible refine Below.drew ?_) | (with_reducible refine Below.setCell ?_ ?_ _) | (with_reducible refine Below.stepB (by assumption) ?_ ?_) | go_size)⟩
end Go.Proofs.Ytfecepjdjikenaa
