/- Contracts: the law's helpers on lists of numbers, of yes and no, of texts, of steps. -/
import Derived.Test.YtbgpmbaonjehbaaEdA
namespace Go.Proofs.Ytbgpmbaonjehbaa
open Go.RowKit
def SlB (w : World) (A : Option Addr) (n : Nat) (L : Nat → Bool) : Prop := Sl w 1 A n (fun i _ => .bool (L i))
theorem SlB.at {w wr : World} {A : Option Addr} {n k : Nat} {L : Nat → Bool} (hS : SlB w A n L) (hb : Below w.heap.size w wr) (hk : k < n) : ∃ b off, A = some ⟨b, off, none⟩ ∧ b < w.heap.size ∧ b < wr.heap.size ∧
    wr.cell? ⟨b, off + k, none⟩ = some (.bool (L k)) := by
  obtain ⟨b, off, hA, hbl, hc⟩ := hS (by omega)
  have hz := hb.size
  refine ⟨b, off, hA, hbl, by omega, (hb.cell (p := ⟨b, _, none⟩) hbl).trans ?_⟩
  have := hc k 0 hk (by decide)
  simpa using this
def SlT (w : World) (A : Option Addr) (n : Nat) (L : Nat → List UInt8) : Prop := Sl w 1 A n (fun i _ => .string ⟨(L i).toArray⟩)
theorem SlT.at {w wr : World} {A : Option Addr} {n k : Nat} {L : Nat → List UInt8} (hS : SlT w A n L) (hb : Below w.heap.size w wr) (hk : k < n) : ∃ b off, A = some ⟨b, off, none⟩ ∧ b < w.heap.size ∧ b < wr.heap.size ∧
    wr.cell? ⟨b, off + k, none⟩ = some (.string ⟨(L k).toArray⟩) := by
  obtain ⟨b, off, hA, hbl, hc⟩ := hS (by omega)
  have hz := hb.size
  refine ⟨b, off, hA, hbl, by omega, (hb.cell (p := ⟨b, _, none⟩) hbl).trans ?_⟩
  have := hc k 0 hk (by decide)
  simpa using this
theorem rInts_same (A A' : Option Addr) (n c c' : Nat) (L : Nat → Int) (w : World) (hS : SlI w A n L) (hS' : SlI w A' n L) (hn : n ≤ 1048576) : Calls Try.prog 13 #[.slice A n c, .slice A' n c'] w
    fun e w' => e = .returned (.bool true) ∧ Below w.heap.size w w' := by
  go_enter Try.func13, Try.ntmps13
  go_wp2
  go_loopw [5] (fun v4 wr => ∃ (k : Nat), k ≤ n ∧ v4 = .int .i64 k ∧ Below w.heap.size w wr) (fun v4 _ => n - (intOf v4).toNat)
  case atStart => exact ⟨0, Nat.zero_le _, rfl, Below.refl _ _⟩
  case round =>
    obtain ⟨k, hk, rfl, hbr⟩ := hrel
    have hzr := hbr.size
    by_cases hlt : k < n
    · obtain ⟨b, off, rfl, hbl, hbl2, c0⟩ := hS.at hbr hlt
      obtain ⟨b', off', rfl, hbl', hbl2', d0⟩ := hS'.at hbr hlt
      clear hS hS'
      skip
      go_wp2
      refine wp_region_later (by kernel_rfl) (by kernel_rfl) (fun hlx => ?_)
      repeat (go_big_quiet_step (fail))
      refine wpQuiet_nil ?_
      clear hlx
      intro w1 hbw1
      obtain ⟨hzw1, hcw1, hfw1⟩ := bfacts hbw1; (try simp at hzw1 hcw1 hfw1); (try (have : w.heap.size < w1.heap.size := by omega)); (try (have : w.heap.size + 1 < w1.heap.size := by omega)); (try (have : w.heap.size + 1 + 1 < w1.heap.size := by omega)); (try (have : w.heap.size + 1 + 1 + 1 < w1.heap.size := by omega))
      go_wp2
      go_roundw
      case rel => exact ⟨k + 1, by omega, by go_num, by repeat' (first | (with_reducible exact Below.refl _ _) | (with_reducible assumption) | (with_reducible refine Below.alloc ?_ ?_ _) | (with_reducible refine Below.drew ?_) | (with_reducible refine Below.setCell ?_ ?_ _) | (with_reducible refine Below.stepB (by assumption) ?_ ?_) | go_size)⟩
      case measure => simp [intOf]; omega
    · obtain rfl : k = n := by omega
      clear hS hS'
      go_wp2
      go_ret
      exact ⟨rfl, hbr⟩
theorem rBools_same (A A' : Option Addr) (n c c' : Nat) (L : Nat → Bool) (w : World) (hS : SlB w A n L) (hS' : SlB w A' n L) (hn : n ≤ 1048576) : Calls Try.prog 12 #[.slice A n c, .slice A' n c'] w
    fun e w' => e = .returned (.bool true) ∧ Below w.heap.size w w' := by
  go_enter Try.func12, Try.ntmps12
  go_wp2
  go_loopw [5] (fun v4 wr => ∃ (k : Nat), k ≤ n ∧ v4 = .int .i64 k ∧ Below w.heap.size w wr) (fun v4 _ => n - (intOf v4).toNat)
  case atStart => exact ⟨0, Nat.zero_le _, rfl, Below.refl _ _⟩
  case round =>
    obtain ⟨k, hk, rfl, hbr⟩ := hrel
    have hzr := hbr.size
    by_cases hlt : k < n
    · obtain ⟨b, off, rfl, hbl, hbl2, c0⟩ := hS.at hbr hlt
      obtain ⟨b', off', rfl, hbl', hbl2', d0⟩ := hS'.at hbr hlt
      clear hS hS'
      skip
      go_wp2
      refine wp_region_later (by kernel_rfl) (by kernel_rfl) (fun hlx => ?_)
      repeat (go_big_quiet_step (fail))
      refine wpQuiet_nil ?_
      clear hlx
      intro w1 hbw1
      obtain ⟨hzw1, hcw1, hfw1⟩ := bfacts hbw1; (try simp at hzw1 hcw1 hfw1); (try (have : w.heap.size < w1.heap.size := by omega)); (try (have : w.heap.size + 1 < w1.heap.size := by omega)); (try (have : w.heap.size + 1 + 1 < w1.heap.size := by omega)); (try (have : w.heap.size + 1 + 1 + 1 < w1.heap.size := by omega))
      go_wp2
      go_roundw
      case rel => exact ⟨k + 1, by omega, by go_num, by repeat' (first | (with_reducible exact Below.refl _ _) | (with_reducible assumption) | (with_reducible refine Below.alloc ?_ ?_ _) | (with_reducible refine Below.drew ?_) | (with_reducible refine Below.setCell ?_ ?_ _) | (with_reducible refine Below.stepB (by assumption) ?_ ?_) | go_size)⟩
      case measure => simp [intOf]; omega
    · obtain rfl : k = n := by omega
      clear hS hS'
      go_wp2
      go_ret
      exact ⟨rfl, hbr⟩
theorem rTexts_same (A A' : Option Addr) (n c c' : Nat) (L : Nat → (List UInt8)) (w : World) (hS : SlT w A n L) (hS' : SlT w A' n L) (hn : n ≤ 1048576) : Calls Try.prog 33 #[.slice A n c, .slice A' n c'] w
    fun e w' => e = .returned (.bool true) ∧ Below w.heap.size w w' := by
  go_enter Try.func33, Try.ntmps33
  go_wp2
  go_loopw [5] (fun v4 wr => ∃ (k : Nat), k ≤ n ∧ v4 = .int .i64 k ∧ Below w.heap.size w wr) (fun v4 _ => n - (intOf v4).toNat)
  case atStart => exact ⟨0, Nat.zero_le _, rfl, Below.refl _ _⟩
  case round =>
    obtain ⟨k, hk, rfl, hbr⟩ := hrel
    have hzr := hbr.size
    by_cases hlt : k < n
    · obtain ⟨b, off, rfl, hbl, hbl2, c0⟩ := hS.at hbr hlt
      obtain ⟨b', off', rfl, hbl', hbl2', d0⟩ := hS'.at hbr hlt
      clear hS hS'
      skip
      go_wp2
      refine wp_region_later (by kernel_rfl) (by kernel_rfl) (fun hlx => ?_)
      repeat (go_big_quiet_step (fail))
      refine wpQuiet_nil ?_
      clear hlx
      intro w1 hbw1
      obtain ⟨hzw1, hcw1, hfw1⟩ := bfacts hbw1; (try simp at hzw1 hcw1 hfw1); (try (have : w.heap.size < w1.heap.size := by omega)); (try (have : w.heap.size + 1 < w1.heap.size := by omega)); (try (have : w.heap.size + 1 + 1 < w1.heap.size := by omega)); (try (have : w.heap.size + 1 + 1 + 1 < w1.heap.size := by omega))
      go_wp2
      go_roundw
      case rel => exact ⟨k + 1, by omega, by go_num, by repeat' (first | (with_reducible exact Below.refl _ _) | (with_reducible assumption) | (with_reducible refine Below.alloc ?_ ?_ _) | (with_reducible refine Below.drew ?_) | (with_reducible refine Below.setCell ?_ ?_ _) | (with_reducible refine Below.stepB (by assumption) ?_ ?_) | go_size)⟩
      case measure => simp [intOf]; omega
    · obtain rfl : k = n := by omega
      clear hS hS'
      go_wp2
      go_ret
      exact ⟨rfl, hbr⟩
theorem esEq_run (s : ES) (w : World) : (Op.equalIn 10000 26 (.agg #[.int .i64 s.kind, .int .i64 s.mark, .int .i64 s.by_, .string ⟨s.reason.toArray⟩]) (.agg #[.int .i64 s.kind, .int .i64 s.mark, .int .i64 s.by_, .string ⟨s.reason.toArray⟩])).run Try.prog w = .ok true w := by
  have u3 := Try.underlying3
  have a3 := Try.isAgg3
  have z3 := Try.sizeOf3
  have u4 := Try.underlying9
  have a4 := Try.isAgg9
  have z4 := Try.sizeOf9
  have hS : Try.prog.underlying 26 = some (.struct (Try.prog.fieldsOf 26)) := by kernel_rfl
  have hp : Try.prog.stoodInHeld 26 = false := by kernel_rfl
  rw [show (10000 : Nat) = 9999 + 1 from rfl, run_equalIn_agg w 9999 26 _ _ hS hp]
  simp only [Program.fieldsOf, Try.underlying26]
  go_simp
theorem esGuard : Try.prog.eqGuardType Try.prog.depth 26 = false := by kernel_rfl
theorem rSteps_same (A A' : Option Addr) (n c c' : Nat) (L : Nat → ES) (w : World) (hS : SlES w A n L) (hS' : SlES w A' n L) (hn : n ≤ 1048576) : Calls Try.prog 9 #[.slice A n c, .slice A' n c'] w
    fun e w' => e = .returned (.bool true) ∧ Below w.heap.size w w' := by
  go_enter Try.func9, Try.ntmps9
  go_wp2
  go_loopw [5] (fun v4 wr => ∃ (k : Nat), k ≤ n ∧ v4 = .int .i64 k ∧ Below w.heap.size w wr) (fun v4 _ => n - (intOf v4).toNat)
  case atStart => exact ⟨0, Nat.zero_le _, rfl, Below.refl _ _⟩
  case round =>
    obtain ⟨k, hk, rfl, hbr⟩ := hrel
    have hzr := hbr.size
    by_cases hlt : k < n
    · obtain ⟨b, off, rfl, hbl, hbl2, c0, c1, c2, c3⟩ := hS.at hbr hlt
      obtain ⟨b', off', rfl, hbl', hbl2', d0, d1, d2, d3⟩ := hS'.at hbr hlt
      clear hS hS'
      have hgd := esGuard; have heq := fun W => esEq_run (L k) W
      go_wp2
      refine wp_region_later (by kernel_rfl) (by kernel_rfl) (fun hlx => ?_)
      repeat (go_big_quiet_step (fail))
      refine wpQuiet_nil ?_
      clear hlx
      intro w1 hbw1
      obtain ⟨hzw1, hcw1, hfw1⟩ := bfacts hbw1; (try simp at hzw1 hcw1 hfw1); (try (have : w.heap.size < w1.heap.size := by omega)); (try (have : w.heap.size + 1 < w1.heap.size := by omega)); (try (have : w.heap.size + 1 + 1 < w1.heap.size := by omega)); (try (have : w.heap.size + 1 + 1 + 1 < w1.heap.size := by omega))
      go_wp2
      go_roundw
      case rel => exact ⟨k + 1, by omega, by go_num, by repeat' (first | (with_reducible exact Below.refl _ _) | (with_reducible assumption) | (with_reducible refine Below.alloc ?_ ?_ _) | (with_reducible refine Below.drew ?_) | (with_reducible refine Below.setCell ?_ ?_ _) | (with_reducible refine Below.stepB (by assumption) ?_ ?_) | go_size)⟩
      case measure => simp [intOf]; omega
    · obtain rfl : k = n := by omega
      clear hS hS'
      go_wp2
      go_ret
      exact ⟨rfl, hbr⟩
theorem rHas_any (A : Option Addr) (n c : Nat) (L : List Int) (x : Int) (w : World) (hS : SlI w A L.length (fun i => L.getD i 0)) (hn : L.length ≤ 1048576) (hnn : n = L.length) : Calls Try.prog 30 #[.slice A n c, .int .i64 x] w
    fun e w' => e = .returned (.bool (decide (x ∈ L))) ∧ Below w.heap.size w w' := by
  have HS := Lib.hid hS
  have HN := Lib.hid hnn
  rw [← hnn] at hn
  clear hS hnn
  go_enter Try.func30, Try.ntmps30
  go_wp2
  go_loopw [5] (fun v5 wr => ∃ (k : Nat), k ≤ n ∧ v5 = .int .i64 k ∧ Hid (∀ j, j < k → L.getD j 0 ≠ x) ∧ Below w.heap.size w wr) (fun v5 _ => n - (intOf v5).toNat)
  case atStart => exact ⟨0, Nat.zero_le _, rfl, fun j hj => absurd hj (Nat.not_lt_zero _), by repeat' (first | (with_reducible exact Below.refl _ _) | (with_reducible assumption) | (with_reducible refine Below.alloc ?_ ?_ _) | (with_reducible refine Below.drew ?_) | (with_reducible refine Below.setCell ?_ ?_ _) | (with_reducible refine Below.stepB (by assumption) ?_ ?_) | go_size)⟩
  case round =>
    obtain ⟨k, hk, rfl, hall, hbr⟩ := hrel
    have hzr := hbr.size
    by_cases hlt : k < n
    · obtain ⟨b, off, rfl, hbl, hbl2, c0⟩ := SlI.at HS.out hbr (show k < L.length by rw [← HN.out]; exact hlt)
      replace c0 : wr.cell? ⟨b, off + k, none⟩ = some (.int .i64 (L.getD k 0)) := c0
      by_cases he : L.getD k 0 = x
      · have HM : Hid (x ∈ L) := by
          show _ ∈ _
          rw [← he]
          simp [List.getD, show k < L.length by rw [← HN.out]; exact hlt]
        have hb : (L.getD k 0 == x) = true := beq_iff_eq.2 he
        clear he
        generalize L.getD k 0 = y at c0 hb
        go_wp2
        go_ret
        rw [decide_eq_true HM.out]
        exact ⟨rfl, hbr⟩
      · have hall2 : Hid (∀ j, j < k + 1 → L.getD j 0 ≠ x) := fun j hj => by
          rcases Nat.lt_or_ge j k with h1 | h1
          · exact hall.out j h1
          · have : j = k := by omega
            rw [this]
            exact he
        have hb : (L.getD k 0 == x) = false := beq_eq_false_iff_ne.2 he
        clear he
        generalize L.getD k 0 = y at c0 hb
        go_wp2
        go_roundw
        case rel => exact ⟨k + 1, by omega, by go_num, hall2, hbr⟩
        case measure => simp [intOf]; omega
    · obtain rfl : k = n := by omega
      have HM : Hid (x ∉ L) := fun hx => by
        obtain ⟨j, hj, e⟩ := List.mem_iff_getElem.1 hx
        exact hall.out j (by rw [HN.out]; exact hj) (by simp [List.getD, hj, e])
      go_wp2
      go_ret
      rw [decide_eq_false HM.out]
      exact ⟨rfl, hbr⟩
theorem rBig_any (A : Option Addr) (n c : Nat) (w : World) : Calls Try.prog 5 #[.slice A n c] w fun e w' => e = .returned (.bool (decide (65536 < (n : Int)))) ∧ w = w' := by
  go_enter Try.func5, Try.ntmps5
  go_wp2
  go_ret
  exact ⟨rfl, rfl⟩
end Go.Proofs.Ytbgpmbaonjehbaa
