/- Contracts: the law's helpers on lists of numbers and of pairs. -/
import Derived.Test.YtfflbkmncnaffaaInts
import Derived.Test.YtfflbkmncnaffaaPairO
namespace Go.Proofs.Ytfflbkmncnaffaa
section
open Go.RowKit
theorem vInts_same (A A' : Option Addr) (n c c' : Nat) (L : Nat → Int) (w : World) (hS : SlI w A n L) (hS' : SlI w A' n L) (hn : n ≤ 1048576) : Calls Try.prog 27 #[.slice A n c, .slice A' n c'] w
    fun e w' => e = .returned (.bool true) ∧ Below w.heap.size w w' := by
  go_enter Try.func27, Try.ntmps27
  go_wp2
  go_loopw [5] (fun v4 wr => ∃ (k : Nat), k ≤ n ∧ v4 = .int .i64 k ∧ Below w.heap.size w wr) (fun v4 _ => n - (intOf v4).toNat)
  case atStart => exact ⟨0, Nat.zero_le _, rfl, Below.refl _ _⟩
  case round =>
    obtain ⟨k, hk, rfl, hbr⟩ := hrel
    have hzr := hbr.size
    by_cases hlt : k < n
    · obtain ⟨b, off, rfl, hbl, hbl2, c0⟩ := hS.at hbr hlt
      obtain ⟨b', off', rfl, hbl', hbl2', c0'⟩ := hS'.at hbr hlt
      clear hS hS'
      go_wp2
      refine wp_region_later (by kernel_rfl) (by kernel_rfl) (fun hlx => ?_)
      repeat (go_big_quiet_step (fail))
      refine wpQuiet_nil ?_
      clear hlx
      intro w1 hbw1
      obtain ⟨hzw1, hcw1, hfw1⟩ := bfacts hbw1; (try simp at hzw1 hcw1 hfw1); (try (have : w.heap.size < w1.heap.size := by omega)); (try (have : w.heap.size + 1 < w1.heap.size := by omega)); (try (have : w.heap.size + 1 + 1 < w1.heap.size := by omega)); (try (have : w.heap.size + 1 + 1 + 1 < w1.heap.size := by omega))
      go_wp2
      go_roundw
      case rel => exact ⟨k + 1, by omega, by go_num, by repeat' (first | (with_reducible exact Below.refl _ _) | (with_reducible assumption) | (with_reducible refine Below.alloc ?_ ?_ _) | (with_reducible refine Below.drew ?_) | (with_reducible refine Below.setCell ?_ ?_ _) | (with_reducible refine Below.stepB (by assumption) ?_ ?_) | go_size)⟩
      case measure => simp [intOf]; omega
    · obtain rfl : k = n := by omega
      clear hS hS'
      go_wp2
      go_ret
      exact ⟨rfl, hbr⟩
theorem vHas_any (A : Option Addr) (n c : Nat) (L : List Int) (x : Int) (w : World) (hS : SlI w A L.length (fun i => L.getD i 0)) (hn : L.length ≤ 1048576) (hnn : n = L.length) : Calls Try.prog 28 #[.slice A n c, .int .i64 x] w
    fun e w' => e = .returned (.bool (decide (x ∈ L))) ∧ Below w.heap.size w w' := by
  have HS := Lib.hid hS
  have HN := Lib.hid hnn
  rw [← hnn] at hn
  clear hS hnn
  go_enter Try.func28, Try.ntmps28
  go_wp2
  go_loopw [5] (fun v5 wr => ∃ (k : Nat), k ≤ n ∧ v5 = .int .i64 k ∧ Hid (∀ j, j < k → L.getD j 0 ≠ x) ∧ Below w.heap.size w wr) (fun v5 _ => n - (intOf v5).toNat)
  case atStart => exact ⟨0, Nat.zero_le _, rfl, fun j hj => absurd hj (Nat.not_lt_zero _), by repeat' (first | (with_reducible exact Below.refl _ _) | (with_reducible assumption) | (with_reducible refine Below.alloc ?_ ?_ _) | (with_reducible refine Below.drew ?_) | (with_reducible refine Below.setCell ?_ ?_ _) | (with_reducible refine Below.stepB (by assumption) ?_ ?_) | go_size)⟩
  case round =>
    obtain ⟨k, hk, rfl, hall, hbr⟩ := hrel
    have hzr := hbr.size
    by_cases hlt : k < n
    · obtain ⟨b, off, rfl, hbl, hbl2, c0⟩ := SlI.at HS.out hbr (show k < L.length by rw [← HN.out]; exact hlt)
      replace c0 : wr.cell? ⟨b, off + k, none⟩ = some (.int .i64 (L.getD k 0)) := c0
      by_cases he : L.getD k 0 = x
      · have HM : Hid (x ∈ L) := by
          show _ ∈ _
          rw [← he]
          simp [List.getD, show k < L.length by rw [← HN.out]; exact hlt]
        have hb : (L.getD k 0 == x) = true := beq_iff_eq.2 he
        clear he
        generalize L.getD k 0 = y at c0 hb
        go_wp2
        go_ret
        rw [decide_eq_true HM.out]
        exact ⟨rfl, hbr⟩
      · have hall2 : Hid (∀ j, j < k + 1 → L.getD j 0 ≠ x) := fun j hj => by
          rcases Nat.lt_or_ge j k with h1 | h1
          · exact hall.out j h1
          · have : j = k := by omega
            rw [this]
            exact he
        have hb : (L.getD k 0 == x) = false := beq_eq_false_iff_ne.2 he
        clear he
        generalize L.getD k 0 = y at c0 hb
        go_wp2
        go_roundw
        case rel => exact ⟨k + 1, by omega, by go_num, hall2, hbr⟩
        case measure => simp [intOf]; omega
    · obtain rfl : k = n := by omega
      have HM : Hid (x ∉ L) := fun hx => by
        obtain ⟨j, hj, e⟩ := List.mem_iff_getElem.1 hx
        exact hall.out j (by rw [HN.out]; exact hj) (by simp [List.getD, hj, e])
      go_wp2
      go_ret
      rw [decide_eq_false HM.out]
      exact ⟨rfl, hbr⟩
theorem vBig_any (A : Option Addr) (n c : Nat) (w : World) : Calls Try.prog 17 #[.slice A n c] w fun e w' => e = .returned (.bool (decide (65536 < (n : Int)))) ∧ w = w' := by
  go_enter Try.func17, Try.ntmps17
  go_wp2
  go_ret
  exact ⟨rfl, rfl⟩
end
section
open Go.RowKit
theorem pairEq_run (a b : Int) (w : World) : (Op.equalIn 10000 59 (.agg #[.int .i64 a, .int .i64 b]) (.agg #[.int .i64 a, .int .i64 b])).run Try.prog w = .ok true w := by
  have u3 := Try.underlying3
  have a3 := Try.isAgg3
  have z3 := Try.sizeOf3
  have hS := Try.underlying59
  have hh : Try.prog.underlying 59 = some (.array 2 3) := hS
  rw [show (10000 : Nat) = 9999 + 1 from rfl]
  unfold Op.equalIn
  simp only [Sem.run_bind, run_underlying hh, Result.andThen_ok]
  go_simp
  rw [show List.range' 0 2 = [0, 1] from rfl]
  simp only [List.forIn_cons, List.forIn_nil]
  go_simp
theorem pairGuard : Try.prog.eqGuardType Try.prog.depth 59 = false := by kernel_rfl
theorem vPairs_same (A A' : Option Addr) (n c c' : Nat) (f : Nat → Int × Int) (w : World) (hS : SlP w A n f) (hS' : SlP w A' n f) (hn : n ≤ 1048576) : Calls Try.prog 38 #[.slice A n c, .slice A' n c'] w
    fun e w' => e = .returned (.bool true) ∧ Below w.heap.size w w' := by
  go_enter Try.func38, Try.ntmps38
  go_wp2
  go_loopw [5] (fun v4 wr => ∃ (k : Nat), k ≤ n ∧ v4 = .int .i64 k ∧ Below w.heap.size w wr) (fun v4 _ => n - (intOf v4).toNat)
  case atStart => exact ⟨0, Nat.zero_le _, rfl, Below.refl _ _⟩
  case round =>
    obtain ⟨k, hk, rfl, hbr⟩ := hrel
    have hzr := hbr.size
    by_cases hlt : k < n
    · obtain ⟨b, off, rfl, hbl, hbl2, c0, c1⟩ := hS.at hbr hlt
      obtain ⟨b', off', rfl, hbl', hbl2', c0', c1'⟩ := hS'.at hbr hlt
      clear hS hS'
      have hgd := pairGuard
      have heq := fun W => pairEq_run (f k).1 (f k).2 W
      go_wp2
      refine wp_region_later (by kernel_rfl) (by kernel_rfl) (fun hlx => ?_)
      repeat (go_big_quiet_step (fail))
      refine wpQuiet_nil ?_
      clear hlx
      intro w1 hbw1
      obtain ⟨hzw1, hcw1, hfw1⟩ := bfacts hbw1; (try simp at hzw1 hcw1 hfw1); (try (have : w.heap.size < w1.heap.size := by omega)); (try (have : w.heap.size + 1 < w1.heap.size := by omega)); (try (have : w.heap.size + 1 + 1 < w1.heap.size := by omega)); (try (have : w.heap.size + 1 + 1 + 1 < w1.heap.size := by omega))
      go_wp2
      go_roundw
      case rel => exact ⟨k + 1, by omega, by go_num, by repeat' (first | (with_reducible exact Below.refl _ _) | (with_reducible assumption) | (with_reducible refine Below.alloc ?_ ?_ _) | (with_reducible refine Below.drew ?_) | (with_reducible refine Below.setCell ?_ ?_ _) | (with_reducible refine Below.stepB (by assumption) ?_ ?_) | go_size)⟩
      case measure => simp [intOf]; omega
    · obtain rfl : k = n := by omega
      clear hS hS'
      go_wp2
      go_ret
      exact ⟨rfl, hbr⟩
end
end Go.Proofs.Ytfflbkmncnaffaa
