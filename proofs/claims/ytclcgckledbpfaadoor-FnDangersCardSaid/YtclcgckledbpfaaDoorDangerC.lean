/- Contracts of the functions on a list of Dangers: valid or not. -/
import Derived.Test.YtclcgckledbpfaaDoorDangerB
namespace Go.Proofs.YtclcgckledbpfaaDoor
open Go.RowKit
/-- the first k are valid and their Ids ascend -/
def goodD (f : Nat → DG) : Nat → Bool
  | 0 => true
  | k + 1 => goodD f k && okD (f k) && (decide (k = 0) || decide ((f (k - 1)).id < (f k).id))
def goodDAll (f : Nat → DG) (n : Nat) : Bool := goodD f n && decide (n ≤ 10)
theorem goodD_ok {f : Nat → DG} {k : Nat} (h : okD (f k) = false) : ∀ n, k < n → goodD f n = false
  | 0, h0 => absurd h0 (by omega)
  | n + 1, h0 => by
    rcases Nat.lt_or_ge k n with h1 | h1
    · simp [goodD, goodD_ok h n h1]
    · obtain rfl : k = n := by omega
      simp [goodD, h]
theorem goodD_id {f : Nat → DG} {m : Nat} (h : (f (m + 1)).id ≤ (f m).id) : ∀ n, m + 1 < n → goodD f n = false
  | 0, h0 => absurd h0 (by omega)
  | n + 1, h0 => by
    rcases Nat.lt_or_ge (m + 1) n with h1 | h1
    · simp [goodD, goodD_id h n h1]
    · obtain rfl : n = m + 1 := by omega
      simp [goodD]; omega
theorem goodD_lt {f : Nat → DG} : ∀ {n : Nat}, goodD f n = true → ∀ k, k < n → okD (f k) = true
  | 0, _, k, h => absurd h (by omega)
  | n + 1, hg, k, h => by
    simp only [goodD, Bool.and_eq_true] at hg
    rcases Nat.lt_or_ge k n with h1 | h1
    · exact goodD_lt hg.1.1 k h1
    · obtain rfl : k = n := by omega
      exact hg.1.2
theorem goodD_asc {f : Nat → DG} {n : Nat} (hg : goodD f n = true) : ∀ i k, i < k → k < n → (f i).id < (f k).id := by
  have step : ∀ k, k + 1 < n → (f k).id < (f (k + 1)).id := fun k hk => by
    rcases Int.lt_or_le (f k).id (f (k + 1)).id with h | h
    · exact h
    · rw [goodD_id h n hk] at hg; cases hg
  intro i k
  induction k with
  | zero => intro h; omega
  | succ k ih =>
    intro h hk
    rcases Nat.lt_or_ge i k with h1 | h1
    · exact Int.lt_trans (ih h1 (by omega)) (step k hk)
    · obtain rfl : i = k := by omega
      exact step i hk
theorem goodDAll_iff {f : Nat → DG} {n : Nat} : goodDAll f n = true ↔ goodD f n = true ∧ n ≤ 10 := by simp [goodDAll]
theorem AreDangers_any (A : Option Addr) (n c : Nat) (f : Nat → DG) (w : World) (hS : SlDG w A n f) (hn : n ≤ 1048576) : Calls Tryd.prog 41 #[.slice A n c] w
    fun e w' => e = .returned (.bool (goodDAll f n)) ∧ Below w.heap.size w w' := by
  go_enter Tryd.func41, Tryd.ntmps41
  go_wp2
  go_loopw [7] (fun v7 wr => ∃ k : Nat, k ≤ n ∧ v7 = .int .i64 k ∧ goodD f k = true ∧ Below w.heap.size w wr) (fun v7 _ => n - (intOf v7).toNat)
  case atStart => exact ⟨0, Nat.zero_le _, rfl, rfl, Below.refl _ _⟩
  case round =>
    obtain ⟨k, hk, rfl, hg, hbr⟩ := hrel
    have hzr := hbr.size
    by_cases hlt : k < n
    · obtain ⟨b, off, rfl, hbl, hbl2, c0, c1, c2, c3, c4, c5, c6, hc⟩ := hS.at hbr hlt
      clear hS
      rcases Bool.eq_false_or_eq_true (okD (f k)) with h | h
      · rcases Nat.eq_zero_or_pos k with rfl | hpos
        · simp only [Nat.zero_mul, Nat.add_zero] at c0 c1 c2 c3 c4 c5 c6
          clear hg hc
          go_wp2
          refine wp_region_later (by kernel_rfl) (by kernel_rfl) (fun hlx => ?_)
          repeat (go_big_quiet_step ((go_at_call 12; exact Later.call (IsDanger_any (f 0) _))))
          refine wpQuiet_nil ?_
          clear hlx
          intro w1 hbw1
          obtain ⟨hzw1, hcw1, hfw1⟩ := bfacts hbw1; (try simp at hzw1 hcw1 hfw1); (try (have : w.heap.size < w1.heap.size := by omega)); (try (have : w.heap.size + 1 < w1.heap.size := by omega)); (try (have : w.heap.size + 1 + 1 < w1.heap.size := by omega)); (try (have : w.heap.size + 1 + 1 + 1 < w1.heap.size := by omega))
          go_wp2
          go_roundw
          case rel => exact ⟨1, by omega, rfl, by simp [goodD, h], by repeat' (first | (with_reducible exact Below.refl _ _) | (with_reducible assumption) | (with_reducible refine Below.alloc ?_ ?_ _) | (with_reducible refine Below.drew ?_) | (with_reducible refine Below.setCell ?_ ?_ _) | (with_reducible refine Below.stepB (by assumption) ?_ ?_) | go_size)⟩
          case measure => simp [intOf]; omega
        · obtain ⟨m, rfl⟩ : ∃ m, k = m + 1 := ⟨k - 1, by omega⟩
          have hp := hc.out m 0 (by omega) (by decide)
          simp only [Nat.add_zero, DG.cell] at hp
          clear hc
          have HG := Lib.hid hg
          clear hg
          by_cases hid : (f m).id < (f (m + 1)).id
          · go_wp2
            refine wp_region_later (by kernel_rfl) (by kernel_rfl) (fun hlx => ?_)
            repeat (go_big_quiet_step ((go_at_call 12; exact Later.call (IsDanger_any (f (m + 1)) _))))
            refine wpQuiet_nil ?_
            clear hlx
            intro w1 hbw1
            obtain ⟨hzw1, hcw1, hfw1⟩ := bfacts hbw1; (try simp at hzw1 hcw1 hfw1); (try (have : w.heap.size < w1.heap.size := by omega)); (try (have : w.heap.size + 1 < w1.heap.size := by omega)); (try (have : w.heap.size + 1 + 1 < w1.heap.size := by omega)); (try (have : w.heap.size + 1 + 1 + 1 < w1.heap.size := by omega))
            go_wp2
            go_roundw
            case rel => exact ⟨m + 1 + 1, by omega, by go_num, by have := HG.out; simp only [goodD] at this ⊢; simp [this, h, hid], by repeat' (first | (with_reducible exact Below.refl _ _) | (with_reducible assumption) | (with_reducible refine Below.alloc ?_ ?_ _) | (with_reducible refine Below.drew ?_) | (with_reducible refine Below.setCell ?_ ?_ _) | (with_reducible refine Below.stepB (by assumption) ?_ ?_) | go_size)⟩
            case measure => simp [intOf]; omega
          · have hgn := Lib.hid (goodD_id (f := f) (by omega) n hlt)
            go_wp2
            refine wp_region_later (by kernel_rfl) (by kernel_rfl) (fun hlx => ?_)
            repeat (go_big_quiet_step ((go_at_call 12; exact Later.call (IsDanger_any (f (m + 1)) _))))
            refine wpQuiet_nil ?_
            clear hlx
            intro w1 hbw1
            obtain ⟨hzw1, hcw1, hfw1⟩ := bfacts hbw1; (try simp at hzw1 hcw1 hfw1); (try (have : w.heap.size < w1.heap.size := by omega)); (try (have : w.heap.size + 1 < w1.heap.size := by omega)); (try (have : w.heap.size + 1 + 1 < w1.heap.size := by omega)); (try (have : w.heap.size + 1 + 1 + 1 < w1.heap.size := by omega))
            go_wp2
            go_ret
            exact ⟨ret_bool (by rw [goodDAll, hgn.out]; rfl), by repeat' (first | (with_reducible exact Below.refl _ _) | (with_reducible assumption) | (with_reducible refine Below.alloc ?_ ?_ _) | (with_reducible refine Below.drew ?_) | (with_reducible refine Below.setCell ?_ ?_ _) | (with_reducible refine Below.stepB (by assumption) ?_ ?_) | go_size)⟩
      · have hgn := Lib.hid (goodD_ok h n hlt)
        clear hg hc
        go_wp2
        refine wp_region_later (by kernel_rfl) (by kernel_rfl) (fun hlx => ?_)
        repeat (go_big_quiet_step ((go_at_call 12; exact Later.call (IsDanger_any (f k) _))))
        refine wpQuiet_nil ?_
        clear hlx
        intro w1 hbw1
        obtain ⟨hzw1, hcw1, hfw1⟩ := bfacts hbw1; (try simp at hzw1 hcw1 hfw1); (try (have : w.heap.size < w1.heap.size := by omega)); (try (have : w.heap.size + 1 < w1.heap.size := by omega)); (try (have : w.heap.size + 1 + 1 < w1.heap.size := by omega)); (try (have : w.heap.size + 1 + 1 + 1 < w1.heap.size := by omega))
        go_wp2
        go_ret
        exact ⟨ret_bool (by rw [goodDAll, hgn.out]; rfl), by repeat' (first | (with_reducible exact Below.refl _ _) | (with_reducible assumption) | (with_reducible refine Below.alloc ?_ ?_ _) | (with_reducible refine Below.drew ?_) | (with_reducible refine Below.setCell ?_ ?_ _) | (with_reducible refine Below.stepB (by assumption) ?_ ?_) | go_size)⟩
    · obtain rfl : k = n := by omega
      have HG := Lib.hid hg
      clear hg hS
      go_wp2
      go_ret
      exact ⟨ret_bool (by rw [goodDAll, HG.out]; simp; omega), by repeat' (first | (with_reducible exact Below.refl _ _) | (with_reducible assumption) | (with_reducible refine Below.alloc ?_ ?_ _) | (with_reducible refine Below.drew ?_) | (with_reducible refine Below.setCell ?_ ?_ _) | (with_reducible refine Below.stepB (by assumption) ?_ ?_) | go_size)⟩
theorem l17Good_any (A : Option Addr) (n c : Nat) (f : Nat → DG) (w : World) (hS : SlDG w A n f) (hn : n ≤ 1048576) : Calls Tryd.prog 42 #[.slice A n c] w
    fun e w' => e = .returned (.bool (goodDAll f n)) ∧ Below w.heap.size w w' := by
  go_enter Tryd.func42, Tryd.ntmps42
  go_wp2
  go_loopw [3] (fun v7 wr => ∃ k : Nat, k ≤ n ∧ v7 = .int .i64 k ∧ goodD f k = true ∧ Below w.heap.size w wr) (fun v7 _ => n - (intOf v7).toNat)
  case atStart => exact ⟨0, Nat.zero_le _, rfl, rfl, Below.refl _ _⟩
  case round =>
    obtain ⟨k, hk, rfl, hg, hbr⟩ := hrel
    have hzr := hbr.size
    by_cases hlt : k < n
    · obtain ⟨b, off, rfl, hbl, hbl2, c0, c1, c2, c3, c4, c5, c6, hc⟩ := hS.at hbr hlt
      clear hS
      rcases Bool.eq_false_or_eq_true (okD (f k)) with h | h
      · rcases Nat.eq_zero_or_pos k with rfl | hpos
        · simp only [Nat.zero_mul, Nat.add_zero] at c0 c1 c2 c3 c4 c5 c6
          clear hg hc
          go_wp2
          refine wp_region_later (by kernel_rfl) (by kernel_rfl) (fun hlx => ?_)
          repeat (go_big_quiet_step ((go_at_call 26; exact Later.call (l17One_any (f 0) _))))
          refine wpQuiet_nil ?_
          clear hlx
          intro w1 hbw1
          obtain ⟨hzw1, hcw1, hfw1⟩ := bfacts hbw1; (try simp at hzw1 hcw1 hfw1); (try (have : w.heap.size < w1.heap.size := by omega)); (try (have : w.heap.size + 1 < w1.heap.size := by omega)); (try (have : w.heap.size + 1 + 1 < w1.heap.size := by omega)); (try (have : w.heap.size + 1 + 1 + 1 < w1.heap.size := by omega))
          go_wp2
          go_roundw
          case rel => exact ⟨1, by omega, rfl, by simp [goodD, h], by repeat' (first | (with_reducible exact Below.refl _ _) | (with_reducible assumption) | (with_reducible refine Below.alloc ?_ ?_ _) | (with_reducible refine Below.drew ?_) | (with_reducible refine Below.setCell ?_ ?_ _) | (with_reducible refine Below.stepB (by assumption) ?_ ?_) | go_size)⟩
          case measure => simp [intOf]; omega
        · obtain ⟨m, rfl⟩ : ∃ m, k = m + 1 := ⟨k - 1, by omega⟩
          have hp := hc.out m 0 (by omega) (by decide)
          simp only [Nat.add_zero, DG.cell] at hp
          clear hc
          have HG := Lib.hid hg
          clear hg
          by_cases hid : (f m).id < (f (m + 1)).id
          · go_wp2
            refine wp_region_later (by kernel_rfl) (by kernel_rfl) (fun hlx => ?_)
            repeat (go_big_quiet_step ((go_at_call 26; exact Later.call (l17One_any (f (m + 1)) _))))
            refine wpQuiet_nil ?_
            clear hlx
            intro w1 hbw1
            obtain ⟨hzw1, hcw1, hfw1⟩ := bfacts hbw1; (try simp at hzw1 hcw1 hfw1); (try (have : w.heap.size < w1.heap.size := by omega)); (try (have : w.heap.size + 1 < w1.heap.size := by omega)); (try (have : w.heap.size + 1 + 1 < w1.heap.size := by omega)); (try (have : w.heap.size + 1 + 1 + 1 < w1.heap.size := by omega))
            go_wp2
            go_roundw
            case rel => exact ⟨m + 1 + 1, by omega, by go_num, by have := HG.out; simp only [goodD] at this ⊢; simp [this, h, hid], by repeat' (first | (with_reducible exact Below.refl _ _) | (with_reducible assumption) | (with_reducible refine Below.alloc ?_ ?_ _) | (with_reducible refine Below.drew ?_) | (with_reducible refine Below.setCell ?_ ?_ _) | (with_reducible refine Below.stepB (by assumption) ?_ ?_) | go_size)⟩
            case measure => simp [intOf]; omega
          · have hgn := Lib.hid (goodD_id (f := f) (by omega) n hlt)
            go_wp2
            refine wp_region_later (by kernel_rfl) (by kernel_rfl) (fun hlx => ?_)
            repeat (go_big_quiet_step ((go_at_call 26; exact Later.call (l17One_any (f (m + 1)) _))))
            refine wpQuiet_nil ?_
            clear hlx
            intro w1 hbw1
            obtain ⟨hzw1, hcw1, hfw1⟩ := bfacts hbw1; (try simp at hzw1 hcw1 hfw1); (try (have : w.heap.size < w1.heap.size := by omega)); (try (have : w.heap.size + 1 < w1.heap.size := by omega)); (try (have : w.heap.size + 1 + 1 < w1.heap.size := by omega)); (try (have : w.heap.size + 1 + 1 + 1 < w1.heap.size := by omega))
            go_wp2
            go_ret
            exact ⟨ret_bool (by rw [goodDAll, hgn.out]; rfl), by repeat' (first | (with_reducible exact Below.refl _ _) | (with_reducible assumption) | (with_reducible refine Below.alloc ?_ ?_ _) | (with_reducible refine Below.drew ?_) | (with_reducible refine Below.setCell ?_ ?_ _) | (with_reducible refine Below.stepB (by assumption) ?_ ?_) | go_size)⟩
      · have hgn := Lib.hid (goodD_ok h n hlt)
        clear hg hc
        go_wp2
        refine wp_region_later (by kernel_rfl) (by kernel_rfl) (fun hlx => ?_)
        repeat (go_big_quiet_step ((go_at_call 26; exact Later.call (l17One_any (f k) _))))
        refine wpQuiet_nil ?_
        clear hlx
        intro w1 hbw1
        obtain ⟨hzw1, hcw1, hfw1⟩ := bfacts hbw1; (try simp at hzw1 hcw1 hfw1); (try (have : w.heap.size < w1.heap.size := by omega)); (try (have : w.heap.size + 1 < w1.heap.size := by omega)); (try (have : w.heap.size + 1 + 1 < w1.heap.size := by omega)); (try (have : w.heap.size + 1 + 1 + 1 < w1.heap.size := by omega))
        go_wp2
        go_ret
        exact ⟨ret_bool (by rw [goodDAll, hgn.out]; rfl), by repeat' (first | (with_reducible exact Below.refl _ _) | (with_reducible assumption) | (with_reducible refine Below.alloc ?_ ?_ _) | (with_reducible refine Below.drew ?_) | (with_reducible refine Below.setCell ?_ ?_ _) | (with_reducible refine Below.stepB (by assumption) ?_ ?_) | go_size)⟩
    · obtain rfl : k = n := by omega
      have HG := Lib.hid hg
      clear hg hS
      go_wp2
      go_ret
      exact ⟨ret_bool (by rw [goodDAll, HG.out]; simp; omega), by repeat' (first | (with_reducible exact Below.refl _ _) | (with_reducible assumption) | (with_reducible refine Below.alloc ?_ ?_ _) | (with_reducible refine Below.drew ?_) | (with_reducible refine Below.setCell ?_ ?_ _) | (with_reducible refine Below.stepB (by assumption) ?_ ?_) | go_size)⟩
end Go.Proofs.YtclcgckledbpfaaDoor
