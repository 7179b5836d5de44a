/- Contracts: fractions in lowest terms: the program's and the reference's. -/
import Derived.Test.YtfflbkmncnaffaaMeshI
namespace Go.Proofs.Ytfflbkmncnaffaa
open Go.RowKit
theorem absOfF_any (x : Int) (w : World) (h0 : -1000000000000000 ≤ x) (h1 : x ≤ 1000000000000000) : Calls Try.prog 138 #[.int .i64 x] w fun e w' => e = .returned (.int .i64 (x.natAbs : Int)) ∧ Below w.heap.size w w' := by
  go_enter Try.func138, Try.ntmps138
  go_wp2
  all_goals go_ret
  all_goals refine ⟨ret_int ?_, by repeat' (first | (with_reducible exact Below.refl _ _) | (with_reducible assumption) | (with_reducible refine Below.alloc ?_ ?_ _) | (with_reducible refine Below.drew ?_) | (with_reducible refine Below.setCell ?_ ?_ _) | (with_reducible refine Below.stepB (by assumption) ?_ ?_) | go_size)⟩
  all_goals omega
theorem l1MostF_any (x : Int) (w : World) : Calls Try.prog 119 #[.int .i64 x, .int .i64 (-x)] w fun e w' => e = .returned (.int .i64 (x.natAbs : Int)) ∧ w = w' := by
  go_enter Try.func119, Try.ntmps119
  go_wp2
  all_goals go_ret
  all_goals exact ⟨ret_int (by omega), rfl⟩
theorem tmod_nat (x y : Nat) : (x : Int).tmod (y : Int) = ((x % y : Nat) : Int) := rfl
theorem gcdOf_any (x y : Int) (w : World) (h0 : -1000000000000000 ≤ x) (h1 : x ≤ 1000000000000000) (h2 : -1000000000000000 ≤ y) (h3 : y ≤ 1000000000000000) : Calls Try.prog 137 #[.int .i64 x, .int .i64 y] w
    fun e w' => e = .returned (.int .i64 (Nat.gcd x.natAbs y.natAbs : Int)) ∧ Below w.heap.size w w' := by
  have ha := Lib.hid (fun W => absOfF_any x W h0 h1)
  have hb := Lib.hid (fun W => absOfF_any y W h2 h3)
  have hx : x.natAbs ≤ 1000000000000000 := by omega
  have hy : y.natAbs ≤ 1000000000000000 := by omega
  generalize x.natAbs = a at ha hx ⊢
  generalize y.natAbs = b at hb hy ⊢
  clear h0 h1 h2 h3
  go_enter Try.func137, Try.ntmps137
  go_wp2_with (first | (go_at_call 138; with_reducible refine (ha.out _).mono ?_; rintro e w1 ⟨rfl, hbw1⟩; obtain ⟨hzw1, hcw1, hfw1⟩ := bfacts hbw1; (try simp at hzw1 hcw1 hfw1); (try (have : w.heap.size < w1.heap.size := by omega)); (try (have : w.heap.size + 1 < w1.heap.size := by omega)); (try (have : w.heap.size + 1 + 1 < w1.heap.size := by omega)); (try (have : w.heap.size + 1 + 1 + 1 < w1.heap.size := by omega))) | (go_at_call 138; with_reducible refine (hb.out _).mono ?_; rintro e w2 ⟨rfl, hbw2⟩; obtain ⟨hzw2, hcw2, hfw2⟩ := bfacts hbw2; (try simp at hzw2 hcw2 hfw2); (try (have : w.heap.size < w2.heap.size := by omega)); (try (have : w.heap.size + 1 < w2.heap.size := by omega)); (try (have : w.heap.size + 1 + 1 < w2.heap.size := by omega)); (try (have : w.heap.size + 1 + 1 + 1 < w2.heap.size := by omega))))
  go_loopw [0, 1] (fun v0 v1 wr => ∃ p q : Nat, (p ≤ 1000000000000000 ∧ q ≤ 1000000000000000) ∧ v0 = .int .i64 p ∧ v1 = .int .i64 q ∧ Hid (Nat.gcd p q = Nat.gcd a b) ∧ Below w.heap.size w wr) (fun _ v1 _ => (intOf v1).toNat)
  case atStart => exact ⟨a, b, by omega, rfl, rfl, rfl, by repeat' (first | (with_reducible exact Below.refl _ _) | (with_reducible assumption) | (with_reducible refine Below.alloc ?_ ?_ _) | (with_reducible refine Below.drew ?_) | (with_reducible refine Below.setCell ?_ ?_ _) | (with_reducible refine Below.stepB (by assumption) ?_ ?_) | go_size)⟩
  case round =>
    obtain ⟨p, q, hpq, rfl, rfl, hg, hbr⟩ := hrel
    have hzr := hbr.size
    by_cases hq : q = 0
    · subst hq
      have HG : Hid ((p : Int) = (Nat.gcd a b : Nat)) := by show _ = _; rw [← hg.out, Nat.gcd_zero_right]
      clear hg
      go_wp2
      go_ret
      exact ⟨ret_int HG.out, hbr⟩
    · have HG : Hid (Nat.gcd q (p % q) = Nat.gcd a b) := by show _ = _; rw [← hg.out, Nat.gcd_comm p q, Nat.gcd_rec q p, Nat.gcd_comm]
      have hlt : p % q < q := Nat.mod_lt _ (by omega)
      have hm := tmod_nat p q
      have HLT := Lib.hid hlt
      clear hg hlt
      have hqz : ((q : Int) != 0) = true := by simp; omega
      have hqz2 : ((q : Int) == 0) = false := by simp; omega
      have hqz3 : ¬ (q : Int) = 0 := by omega
      go_wp2
      refine wp_region_later (by kernel_rfl) (by kernel_rfl) (fun hlx => ?_)
      repeat (go_big_quiet_step (fail))
      refine wpQuiet_nil ?_
      clear hlx
      intro w3 hbw3
      obtain ⟨hzw3, hcw3, hfw3⟩ := bfacts hbw3; (try simp at hzw3 hcw3 hfw3); (try (have : w.heap.size < w3.heap.size := by omega)); (try (have : w.heap.size + 1 < w3.heap.size := by omega)); (try (have : w.heap.size + 1 + 1 < w3.heap.size := by omega)); (try (have : w.heap.size + 1 + 1 + 1 < w3.heap.size := by omega))
      go_wp2
      go_roundw
      case rel => exact ⟨q, p % q, by have := HLT.out; omega, rfl, by go_num, HG.out, by repeat' (first | (with_reducible exact Below.refl _ _) | (with_reducible assumption) | (with_reducible refine Below.alloc ?_ ?_ _) | (with_reducible refine Below.drew ?_) | (with_reducible refine Below.setCell ?_ ?_ _) | (with_reducible refine Below.stepB (by assumption) ?_ ?_) | go_size)⟩
      case measure => have := HLT.out; simp [intOf]; omega
theorem tdiv_nat {x : Int} {g : Nat} (_hg : 0 < g) (h0 : -1000000000000000 ≤ x) (h1 : x ≤ 1000000000000000) : IntKind.i64.wrap (x.tdiv (g : Int)) = x.tdiv (g : Int) := by
  have h := Int.natAbs_tdiv_le_natAbs x (g : Int)
  rw [IntKind.wrap_i64]
  omega
theorem lowestTerms_any (x y : Int) (w : World) (h0 : -1000000000000000 ≤ x) (h1 : x ≤ 1000000000000000) (h2 : 0 < y) (h3 : y ≤ 1000000000000000) : Calls Try.prog 135 #[.int .i64 x, .int .i64 y] w
    fun e w' => e = .returned (.tuple #[.int .i64 (x.tdiv (Nat.gcd x.natAbs y.natAbs : Nat)), .int .i64 (y.tdiv (Nat.gcd x.natAbs y.natAbs : Nat))]) ∧ Below w.heap.size w w' := by
  have hc := Lib.hid (fun W => gcdOf_any x y W h0 h1 (by omega) h3)
  have hg : 0 < Nat.gcd x.natAbs y.natAbs := Nat.gcd_pos_of_pos_right _ (by omega)
  generalize Nat.gcd x.natAbs y.natAbs = g at hc hg ⊢
  have e1 := tdiv_nat hg h0 h1
  have e2 := tdiv_nat (x := y) hg (by omega) h3
  have hz : ¬ (g : Int) = 0 := by omega
  go_enter Try.func135, Try.ntmps135
  go_wp2_with (go_at_call 137; refine (hc.out _).mono ?_; rintro e w1 ⟨rfl, hbw1⟩; obtain ⟨hzw1, hcw1, hfw1⟩ := bfacts hbw1; (try simp at hzw1 hcw1 hfw1); (try (have : w.heap.size < w1.heap.size := by omega)); (try (have : w.heap.size + 1 < w1.heap.size := by omega)); (try (have : w.heap.size + 1 + 1 < w1.heap.size := by omega)); (try (have : w.heap.size + 1 + 1 + 1 < w1.heap.size := by omega)))
  refine wp_region_later (by kernel_rfl) (by kernel_rfl) (fun hlx => ?_)
  repeat (go_big_quiet_step (fail))
  refine wpQuiet_nil ?_
  clear hlx
  intro w2 hbw2
  obtain ⟨hzw2, hcw2, hfw2⟩ := bfacts hbw2; (try simp at hzw2 hcw2 hfw2); (try (have : w.heap.size < w2.heap.size := by omega)); (try (have : w.heap.size + 1 < w2.heap.size := by omega)); (try (have : w.heap.size + 1 + 1 < w2.heap.size := by omega)); (try (have : w.heap.size + 1 + 1 + 1 < w2.heap.size := by omega))
  go_wp2
  go_ret2
  exact ⟨rfl, by repeat' (first | (with_reducible exact Below.refl _ _) | (with_reducible assumption) | (with_reducible refine Below.alloc ?_ ?_ _) | (with_reducible refine Below.drew ?_) | (with_reducible refine Below.setCell ?_ ?_ _) | (with_reducible refine Below.stepB (by assumption) ?_ ?_) | go_size)⟩
theorem asPart_any (x y : Int) (w : World) (h0 : -1000000000000000 ≤ x) (h1 : x ≤ 1000000000000000) (h2 : 0 < y) (h3 : y ≤ 1000000000000000) : Calls Try.prog 116 #[.int .i64 x, .int .i64 y] w
    fun e w' => e = .returned (.agg #[.int .i64 (x.tdiv (Nat.gcd x.natAbs y.natAbs : Nat)), .int .i64 (y.tdiv (Nat.gcd x.natAbs y.natAbs : Nat))]) ∧ Below w.heap.size w w' := by
  have hc := Lib.hid (fun W => lowestTerms_any x y W h0 h1 h2 h3)
  generalize x.tdiv (Nat.gcd x.natAbs y.natAbs : Nat) = a at hc ⊢
  generalize y.tdiv (Nat.gcd x.natAbs y.natAbs : Nat) = b at hc ⊢
  go_enter Try.func116, Try.ntmps116
  go_wp2_with fail
  refine (hc.out _).mono ?_
  rintro e w1 ⟨rfl, hbw1⟩
  obtain ⟨hzw1, hcw1, hfw1⟩ := bfacts hbw1; (try simp at hzw1 hcw1 hfw1); (try (have : w.heap.size < w1.heap.size := by omega)); (try (have : w.heap.size + 1 < w1.heap.size := by omega)); (try (have : w.heap.size + 1 + 1 < w1.heap.size := by omega)); (try (have : w.heap.size + 1 + 1 + 1 < w1.heap.size := by omega))
  have hB : Blk w1 w.heap.size 105 #[.int .i64 0, .int .i64 0] := (blk_newP w _ _ rfl).below hbw1 (by simp)
  have d0 : w1.cell? ⟨w.heap.size, 0, none⟩ = some (.int .i64 0) := hB.cell 0
  have d1 : w1.cell? ⟨w.heap.size, 1, none⟩ = some (.int .i64 0) := hB.cell 1
  have hfz := hB.frozen
  have hlt := hB.lt
  have hB2 := Lib.hid ((hB.set_ 0 (.int .i64 a)).set_ 1 (.int .i64 b))
  clear hcw1 hfw1
  go_wp2
  have f0 : ((w1.setCell ⟨w.heap.size, 0, none⟩ (.int .i64 a)).setCell ⟨w.heap.size, 1, none⟩ (.int .i64 b)).cell? ⟨w.heap.size, 0, none⟩ = some (.int .i64 a) := hB2.out.cell 0
  have f1 : ((w1.setCell ⟨w.heap.size, 0, none⟩ (.int .i64 a)).setCell ⟨w.heap.size, 1, none⟩ (.int .i64 b)).cell? ⟨w.heap.size, 1, none⟩ = some (.int .i64 b) := hB2.out.cell 1
  refine bodyPost_ret (by simp [results, Try.results116, go_sem, f0, f1]; try rfl) rfl ?_
  exact ⟨rfl, by repeat' (first | (with_reducible exact Below.refl _ _) | (with_reducible assumption) | (with_reducible refine Below.alloc ?_ ?_ _) | (with_reducible refine Below.drew ?_) | (with_reducible refine Below.setCell ?_ ?_ _) | (with_reducible refine Below.stepB (by assumption) ?_ ?_) | go_size)⟩
theorem l2Reduce_any (x y : Int) (w : World) (h0 : -1000000000000000 ≤ x) (h1 : x ≤ 1000000000000000) (h2 : 0 < y) (h3 : y ≤ 1000000000000000) : Calls Try.prog 78 #[.int .i64 x, .int .i64 y] w
    fun e w' => e = .returned (.tuple #[.int .i64 (x.tdiv (Nat.gcd x.natAbs y.natAbs : Nat)), .int .i64 (y.tdiv (Nat.gcd x.natAbs y.natAbs : Nat))]) ∧ Below w.heap.size w w' := by
  have ha := Lib.hid (fun W => l1MostF_any x W)
  have hg : 0 < Nat.gcd x.natAbs y.natAbs := Nat.gcd_pos_of_pos_right _ (by omega)
  have HYB : Hid (y = (y.natAbs : Int)) := by show _ = _; omega
  have hx : x.natAbs ≤ 1000000000000000 := by omega
  have hy : y.natAbs ≤ 1000000000000000 := by omega
  have HE := Lib.hid (tdiv_nat hg h0 h1)
  have HE2 := Lib.hid (tdiv_nat (x := y) hg (by omega) h3)
  generalize x.natAbs = a at ha hx hg HE HE2 ⊢
  generalize y.natAbs = b at hy hg HYB HE HE2 ⊢
  have HG := Lib.hid hg
  clear h2 h3 hg
  go_enter Try.func78, Try.ntmps78
  go_wp2_with (go_at_call 119; refine (ha.out _).mono ?_; rintro e w' ⟨rfl, rfl⟩)
  go_loopw [6, 7] (fun v0 v1 wr => ∃ p q : Nat, (p ≤ 1000000000000000 ∧ q ≤ 1000000000000000) ∧ v0 = .int .i64 p ∧ v1 = .int .i64 q ∧ Hid (Nat.gcd p q = Nat.gcd a b) ∧ Below w.heap.size w wr) (fun _ v1 _ => (intOf v1).toNat)
  case atStart => exact ⟨a, b, by omega, rfl, by rw [HYB.out], rfl, by repeat' (first | (with_reducible exact Below.refl _ _) | (with_reducible assumption) | (with_reducible refine Below.alloc ?_ ?_ _) | (with_reducible refine Below.drew ?_) | (with_reducible refine Below.setCell ?_ ?_ _) | (with_reducible refine Below.stepB (by assumption) ?_ ?_) | go_size)⟩
  case round =>
    obtain ⟨p, q, hpq, rfl, rfl, hg, hbr⟩ := hrel
    have hzr := hbr.size
    by_cases hq : q = 0
    · subst hq
      have hpg : p = Nat.gcd a b := by rw [← hg.out, Nat.gcd_zero_right]
      have hg0 := HG.out
      have e1 := HE.out
      have e2 := HE2.out
      rw [← hpg] at hg0 e1 e2
      have hz : ¬ (p : Int) = 0 := by omega
      have HPG := Lib.hid hpg
      clear hpg hg
      go_wp2
      refine wp_region_later (by kernel_rfl) (by kernel_rfl) (fun hlx => ?_)
      repeat (go_big_quiet_step (fail))
      refine wpQuiet_nil ?_
      clear hlx
      intro w2 hbw2
      obtain ⟨hzw2, hcw2, hfw2⟩ := bfacts hbw2; (try simp at hzw2 hcw2 hfw2); (try (have : w.heap.size < w2.heap.size := by omega)); (try (have : w.heap.size + 1 < w2.heap.size := by omega)); (try (have : w.heap.size + 1 + 1 < w2.heap.size := by omega)); (try (have : w.heap.size + 1 + 1 + 1 < w2.heap.size := by omega))
      go_wp2
      go_ret2
      exact ⟨by rw [← show p = Nat.gcd a b from HPG.out] <;> rfl, by repeat' (first | (with_reducible exact Below.refl _ _) | (with_reducible assumption) | (with_reducible refine Below.alloc ?_ ?_ _) | (with_reducible refine Below.drew ?_) | (with_reducible refine Below.setCell ?_ ?_ _) | (with_reducible refine Below.stepB (by assumption) ?_ ?_) | go_size)⟩
    · have HGG : Hid (Nat.gcd q (p % q) = Nat.gcd a b) := by show _ = _; rw [← hg.out, Nat.gcd_comm p q, Nat.gcd_rec q p, Nat.gcd_comm]
      have hlt : p % q < q := Nat.mod_lt _ (by omega)
      have hm := tmod_nat p q
      have HLT := Lib.hid hlt
      clear hg hlt
      have hqz3 : ¬ (q : Int) = 0 := by omega
      go_wp2
      go_roundw
      case rel => exact ⟨q, p % q, by have := HLT.out; omega, rfl, by go_num, HGG.out, by repeat' (first | (with_reducible exact Below.refl _ _) | (with_reducible assumption) | (with_reducible refine Below.alloc ?_ ?_ _) | (with_reducible refine Below.drew ?_) | (with_reducible refine Below.setCell ?_ ?_ _) | (with_reducible refine Below.stepB (by assumption) ?_ ?_) | go_size)⟩
      case measure => have := HLT.out; simp [intOf]; omega
end Go.Proofs.Ytfflbkmncnaffaa
