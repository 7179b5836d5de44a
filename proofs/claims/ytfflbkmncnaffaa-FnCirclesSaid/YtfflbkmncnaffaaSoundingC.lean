/- Contracts of the functions on a list of Soundings: valid or not. -/
import Derived.Test.YtfflbkmncnaffaaSoundingB
namespace Go.Proofs.Ytfflbkmncnaffaa
open Go.RowKit
/-- the first k are valid and their Ids ascend -/
def goodN (f : Nat → SD) : Nat → Bool
  | 0 => true
  | k + 1 => goodN f k && okN (f k) && (decide (k = 0) || decide ((f (k - 1)).id < (f k).id))
def goodNAll (f : Nat → SD) (n : Nat) : Bool := goodN f n && decide (n ≤ 12)
theorem goodN_ok {f : Nat → SD} {k : Nat} (h : okN (f k) = false) : ∀ n, k < n → goodN f n = false
  | 0, h0 => absurd h0 (by omega)
  | n + 1, h0 => by
    rcases Nat.lt_or_ge k n with h1 | h1
    · simp [goodN, goodN_ok h n h1]
    · obtain rfl : k = n := by omega
      simp [goodN, h]
theorem goodN_id {f : Nat → SD} {m : Nat} (h : (f (m + 1)).id ≤ (f m).id) : ∀ n, m + 1 < n → goodN f n = false
  | 0, h0 => absurd h0 (by omega)
  | n + 1, h0 => by
    rcases Nat.lt_or_ge (m + 1) n with h1 | h1
    · simp [goodN, goodN_id h n h1]
    · obtain rfl : n = m + 1 := by omega
      simp [goodN]; omega
theorem goodN_lt {f : Nat → SD} : ∀ {n : Nat}, goodN f n = true → ∀ k, k < n → okN (f k) = true
  | 0, _, k, h => absurd h (by omega)
  | n + 1, hg, k, h => by
    simp only [goodN, Bool.and_eq_true] at hg
    rcases Nat.lt_or_ge k n with h1 | h1
    · exact goodN_lt hg.1.1 k h1
    · obtain rfl : k = n := by omega
      exact hg.1.2
theorem goodN_asc {f : Nat → SD} {n : Nat} (hg : goodN f n = true) : ∀ i k, i < k → k < n → (f i).id < (f k).id := by
  have step : ∀ k, k + 1 < n → (f k).id < (f (k + 1)).id := fun k hk => by
    rcases Int.lt_or_le (f k).id (f (k + 1)).id with h | h
    · exact h
    · rw [goodN_id h n hk] at hg; cases hg
  intro i k
  induction k with
  | zero => intro h; omega
  | succ k ih =>
    intro h hk
    rcases Nat.lt_or_ge i k with h1 | h1
    · exact Int.lt_trans (ih h1 (by omega)) (step k hk)
    · obtain rfl : i = k := by omega
      exact step i hk
theorem goodNAll_iff {f : Nat → SD} {n : Nat} : goodNAll f n = true ↔ goodN f n = true ∧ n ≤ 12 := by simp [goodNAll]
theorem AreSoundings_any (A : Option Addr) (n c : Nat) (f : Nat → SD) (w : World) (hS : SlSD w A n f) (hn : n ≤ 1048576) : Calls Try.prog 100 #[.slice A n c] w
    fun e w' => e = .returned (.bool (goodNAll f n)) ∧ Below w.heap.size w w' := by
  go_enter Try.func100, Try.ntmps100
  go_wp2
  go_loopw [7] (fun v7 wr => ∃ k : Nat, k ≤ n ∧ v7 = .int .i64 k ∧ goodN f k = true ∧ Below w.heap.size w wr) (fun v7 _ => n - (intOf v7).toNat)
  case atStart => exact ⟨0, Nat.zero_le _, rfl, rfl, Below.refl _ _⟩
  case round =>
    obtain ⟨k, hk, rfl, hg, hbr⟩ := hrel
    have hzr := hbr.size
    by_cases hlt : k < n
    · obtain ⟨b, off, rfl, hbl, hbl2, c0, c1, c2, c3, c4, hc⟩ := hS.at hbr hlt
      clear hS
      rcases Bool.eq_false_or_eq_true (okN (f k)) with h | h
      · rcases Nat.eq_zero_or_pos k with rfl | hpos
        · simp only [Nat.zero_mul, Nat.add_zero] at c0 c1 c2 c3 c4
          clear hg hc
          go_wp2
          refine wp_region_later (by kernel_rfl) (by kernel_rfl) (fun hlx => ?_)
          repeat (go_big_quiet_step ((go_at_call 132; exact Later.call (IsSounding_any (f 0) _))))
          refine wpQuiet_nil ?_
          clear hlx
          intro w1 hbw1
          obtain ⟨hzw1, hcw1, hfw1⟩ := bfacts hbw1; (try simp at hzw1 hcw1 hfw1); (try (have : w.heap.size < w1.heap.size := by omega)); (try (have : w.heap.size + 1 < w1.heap.size := by omega)); (try (have : w.heap.size + 1 + 1 < w1.heap.size := by omega)); (try (have : w.heap.size + 1 + 1 + 1 < w1.heap.size := by omega))
          go_wp2
          go_roundw
          case rel => exact ⟨1, by omega, rfl, by simp [goodN, h], by repeat' (first | (with_reducible exact Below.refl _ _) | (with_reducible assumption) | (with_reducible refine Below.alloc ?_ ?_ _) | (with_reducible refine Below.drew ?_) | (with_reducible refine Below.setCell ?_ ?_ _) | (with_reducible refine Below.stepB (by assumption) ?_ ?_) | go_size)⟩
          case measure => simp [intOf]; omega
        · obtain ⟨m, rfl⟩ : ∃ m, k = m + 1 := ⟨k - 1, by omega⟩
          have hp := hc.out m 0 (by omega) (by decide)
          simp only [Nat.add_zero, SD.cell] at hp
          clear hc
          have HG := Lib.hid hg
          clear hg
          by_cases hid : (f m).id < (f (m + 1)).id
          · go_wp2
            refine wp_region_later (by kernel_rfl) (by kernel_rfl) (fun hlx => ?_)
            repeat (go_big_quiet_step ((go_at_call 132; exact Later.call (IsSounding_any (f (m + 1)) _))))
            refine wpQuiet_nil ?_
            clear hlx
            intro w1 hbw1
            obtain ⟨hzw1, hcw1, hfw1⟩ := bfacts hbw1; (try simp at hzw1 hcw1 hfw1); (try (have : w.heap.size < w1.heap.size := by omega)); (try (have : w.heap.size + 1 < w1.heap.size := by omega)); (try (have : w.heap.size + 1 + 1 < w1.heap.size := by omega)); (try (have : w.heap.size + 1 + 1 + 1 < w1.heap.size := by omega))
            go_wp2
            go_roundw
            case rel => exact ⟨m + 1 + 1, by omega, by go_num, by have := HG.out; simp only [goodN] at this ⊢; simp [this, h, hid], by repeat' (first | (with_reducible exact Below.refl _ _) | (with_reducible assumption) | (with_reducible refine Below.alloc ?_ ?_ _) | (with_reducible refine Below.drew ?_) | (with_reducible refine Below.setCell ?_ ?_ _) | (with_reducible refine Below.stepB (by assumption) ?_ ?_) | go_size)⟩
            case measure => simp [intOf]; omega
          · have hgn := Lib.hid (goodN_id (f := f) (by omega) n hlt)
            go_wp2
            refine wp_region_later (by kernel_rfl) (by kernel_rfl) (fun hlx => ?_)
            repeat (go_big_quiet_step ((go_at_call 132; exact Later.call (IsSounding_any (f (m + 1)) _))))
            refine wpQuiet_nil ?_
            clear hlx
            intro w1 hbw1
            obtain ⟨hzw1, hcw1, hfw1⟩ := bfacts hbw1; (try simp at hzw1 hcw1 hfw1); (try (have : w.heap.size < w1.heap.size := by omega)); (try (have : w.heap.size + 1 < w1.heap.size := by omega)); (try (have : w.heap.size + 1 + 1 < w1.heap.size := by omega)); (try (have : w.heap.size + 1 + 1 + 1 < w1.heap.size := by omega))
            go_wp2
            go_ret
            exact ⟨ret_bool (by rw [goodNAll, hgn.out]; rfl), by repeat' (first | (with_reducible exact Below.refl _ _) | (with_reducible assumption) | (with_reducible refine Below.alloc ?_ ?_ _) | (with_reducible refine Below.drew ?_) | (with_reducible refine Below.setCell ?_ ?_ _) | (with_reducible refine Below.stepB (by assumption) ?_ ?_) | go_size)⟩
      · have hgn := Lib.hid (goodN_ok h n hlt)
        clear hg hc
        go_wp2
        refine wp_region_later (by kernel_rfl) (by kernel_rfl) (fun hlx => ?_)
        repeat (go_big_quiet_step ((go_at_call 132; exact Later.call (IsSounding_any (f k) _))))
        refine wpQuiet_nil ?_
        clear hlx
        intro w1 hbw1
        obtain ⟨hzw1, hcw1, hfw1⟩ := bfacts hbw1; (try simp at hzw1 hcw1 hfw1); (try (have : w.heap.size < w1.heap.size := by omega)); (try (have : w.heap.size + 1 < w1.heap.size := by omega)); (try (have : w.heap.size + 1 + 1 < w1.heap.size := by omega)); (try (have : w.heap.size + 1 + 1 + 1 < w1.heap.size := by omega))
        go_wp2
        go_ret
        exact ⟨ret_bool (by rw [goodNAll, hgn.out]; rfl), by repeat' (first | (with_reducible exact Below.refl _ _) | (with_reducible assumption) | (with_reducible refine Below.alloc ?_ ?_ _) | (with_reducible refine Below.drew ?_) | (with_reducible refine Below.setCell ?_ ?_ _) | (with_reducible refine Below.stepB (by assumption) ?_ ?_) | go_size)⟩
    · obtain rfl : k = n := by omega
      have HG := Lib.hid hg
      clear hg hS
      go_wp2
      go_ret
      exact ⟨ret_bool (by rw [goodNAll, HG.out]; simp; omega), by repeat' (first | (with_reducible exact Below.refl _ _) | (with_reducible assumption) | (with_reducible refine Below.alloc ?_ ?_ _) | (with_reducible refine Below.drew ?_) | (with_reducible refine Below.setCell ?_ ?_ _) | (with_reducible refine Below.stepB (by assumption) ?_ ?_) | go_size)⟩
theorem l8Good_any (A : Option Addr) (n c : Nat) (f : Nat → SD) (w : World) (hS : SlSD w A n f) (hn : n ≤ 1048576) : Calls Try.prog 103 #[.slice A n c] w
    fun e w' => e = .returned (.bool (goodNAll f n)) ∧ Below w.heap.size w w' := by
  go_enter Try.func103, Try.ntmps103
  go_wp2
  go_loopw [3] (fun v7 wr => ∃ k : Nat, k ≤ n ∧ v7 = .int .i64 k ∧ goodN f k = true ∧ Below w.heap.size w wr) (fun v7 _ => n - (intOf v7).toNat)
  case atStart => exact ⟨0, Nat.zero_le _, rfl, rfl, Below.refl _ _⟩
  case round =>
    obtain ⟨k, hk, rfl, hg, hbr⟩ := hrel
    have hzr := hbr.size
    by_cases hlt : k < n
    · obtain ⟨b, off, rfl, hbl, hbl2, c0, c1, c2, c3, c4, hc⟩ := hS.at hbr hlt
      clear hS
      rcases Bool.eq_false_or_eq_true (okN (f k)) with h | h
      · rcases Nat.eq_zero_or_pos k with rfl | hpos
        · simp only [Nat.zero_mul, Nat.add_zero] at c0 c1 c2 c3 c4
          clear hg hc
          go_wp2
          refine wp_region_later (by kernel_rfl) (by kernel_rfl) (fun hlx => ?_)
          repeat (go_big_quiet_step ((go_at_call 133; exact Later.call (l8One_any (f 0) _))))
          refine wpQuiet_nil ?_
          clear hlx
          intro w1 hbw1
          obtain ⟨hzw1, hcw1, hfw1⟩ := bfacts hbw1; (try simp at hzw1 hcw1 hfw1); (try (have : w.heap.size < w1.heap.size := by omega)); (try (have : w.heap.size + 1 < w1.heap.size := by omega)); (try (have : w.heap.size + 1 + 1 < w1.heap.size := by omega)); (try (have : w.heap.size + 1 + 1 + 1 < w1.heap.size := by omega))
          go_wp2
          go_roundw
          case rel => exact ⟨1, by omega, rfl, by simp [goodN, h], by repeat' (first | (with_reducible exact Below.refl _ _) | (with_reducible assumption) | (with_reducible refine Below.alloc ?_ ?_ _) | (with_reducible refine Below.drew ?_) | (with_reducible refine Below.setCell ?_ ?_ _) | (with_reducible refine Below.stepB (by assumption) ?_ ?_) | go_size)⟩
          case measure => simp [intOf]; omega
        · obtain ⟨m, rfl⟩ : ∃ m, k = m + 1 := ⟨k - 1, by omega⟩
          have hp := hc.out m 0 (by omega) (by decide)
          simp only [Nat.add_zero, SD.cell] at hp
          clear hc
          have HG := Lib.hid hg
          clear hg
          by_cases hid : (f m).id < (f (m + 1)).id
          · go_wp2
            refine wp_region_later (by kernel_rfl) (by kernel_rfl) (fun hlx => ?_)
            repeat (go_big_quiet_step ((go_at_call 133; exact Later.call (l8One_any (f (m + 1)) _))))
            refine wpQuiet_nil ?_
            clear hlx
            intro w1 hbw1
            obtain ⟨hzw1, hcw1, hfw1⟩ := bfacts hbw1; (try simp at hzw1 hcw1 hfw1); (try (have : w.heap.size < w1.heap.size := by omega)); (try (have : w.heap.size + 1 < w1.heap.size := by omega)); (try (have : w.heap.size + 1 + 1 < w1.heap.size := by omega)); (try (have : w.heap.size + 1 + 1 + 1 < w1.heap.size := by omega))
            go_wp2
            go_roundw
            case rel => exact ⟨m + 1 + 1, by omega, by go_num, by have := HG.out; simp only [goodN] at this ⊢; simp [this, h, hid], by repeat' (first | (with_reducible exact Below.refl _ _) | (with_reducible assumption) | (with_reducible refine Below.alloc ?_ ?_ _) | (with_reducible refine Below.drew ?_) | (with_reducible refine Below.setCell ?_ ?_ _) | (with_reducible refine Below.stepB (by assumption) ?_ ?_) | go_size)⟩
            case measure => simp [intOf]; omega
          · have hgn := Lib.hid (goodN_id (f := f) (by omega) n hlt)
            go_wp2
            refine wp_region_later (by kernel_rfl) (by kernel_rfl) (fun hlx => ?_)
            repeat (go_big_quiet_step ((go_at_call 133; exact Later.call (l8One_any (f (m + 1)) _))))
            refine wpQuiet_nil ?_
            clear hlx
            intro w1 hbw1
            obtain ⟨hzw1, hcw1, hfw1⟩ := bfacts hbw1; (try simp at hzw1 hcw1 hfw1); (try (have : w.heap.size < w1.heap.size := by omega)); (try (have : w.heap.size + 1 < w1.heap.size := by omega)); (try (have : w.heap.size + 1 + 1 < w1.heap.size := by omega)); (try (have : w.heap.size + 1 + 1 + 1 < w1.heap.size := by omega))
            go_wp2
            go_ret
            exact ⟨ret_bool (by rw [goodNAll, hgn.out]; rfl), by repeat' (first | (with_reducible exact Below.refl _ _) | (with_reducible assumption) | (with_reducible refine Below.alloc ?_ ?_ _) | (with_reducible refine Below.drew ?_) | (with_reducible refine Below.setCell ?_ ?_ _) | (with_reducible refine Below.stepB (by assumption) ?_ ?_) | go_size)⟩
      · have hgn := Lib.hid (goodN_ok h n hlt)
        clear hg hc
        go_wp2
        refine wp_region_later (by kernel_rfl) (by kernel_rfl) (fun hlx => ?_)
        repeat (go_big_quiet_step ((go_at_call 133; exact Later.call (l8One_any (f k) _))))
        refine wpQuiet_nil ?_
        clear hlx
        intro w1 hbw1
        obtain ⟨hzw1, hcw1, hfw1⟩ := bfacts hbw1; (try simp at hzw1 hcw1 hfw1); (try (have : w.heap.size < w1.heap.size := by omega)); (try (have : w.heap.size + 1 < w1.heap.size := by omega)); (try (have : w.heap.size + 1 + 1 < w1.heap.size := by omega)); (try (have : w.heap.size + 1 + 1 + 1 < w1.heap.size := by omega))
        go_wp2
        go_ret
        exact ⟨ret_bool (by rw [goodNAll, hgn.out]; rfl), by repeat' (first | (with_reducible exact Below.refl _ _) | (with_reducible assumption) | (with_reducible refine Below.alloc ?_ ?_ _) | (with_reducible refine Below.drew ?_) | (with_reducible refine Below.setCell ?_ ?_ _) | (with_reducible refine Below.stepB (by assumption) ?_ ?_) | go_size)⟩
    · obtain rfl : k = n := by omega
      have HG := Lib.hid hg
      clear hg hS
      go_wp2
      go_ret
      exact ⟨ret_bool (by rw [goodNAll, HG.out]; simp; omega), by repeat' (first | (with_reducible exact Below.refl _ _) | (with_reducible assumption) | (with_reducible refine Below.alloc ?_ ?_ _) | (with_reducible refine Below.drew ?_) | (with_reducible refine Below.setCell ?_ ?_ _) | (with_reducible refine Below.stepB (by assumption) ?_ ?_) | go_size)⟩
end Go.Proofs.Ytfflbkmncnaffaa
