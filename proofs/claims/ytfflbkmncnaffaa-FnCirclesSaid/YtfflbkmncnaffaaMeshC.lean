/- Contracts: the library's searches and comparisons on spots and numbers; a list of spots is valid; a triangle is valid. -/
import Derived.Test.YtfflbkmncnaffaaMeshB
import Derived.Laws.StructEq
namespace Go.Proofs.Ytfflbkmncnaffaa
open Go.RowKit
def cmp1 (x y : Int) : Int := if x < y then -1 else if y < x then 1 else 0
theorem isNaN_any (x : Int) (w : World) : Calls Try.prog 136 #[.int .i64 x] w fun e w' => e = .returned (.bool false) ∧ w = w' := by
  go_enter Try.func136, Try.ntmps136
  go_wp2
  go_ret
  exact ⟨ret_bool (by simp), rfl⟩
theorem cmpI_any (x y : Int) (w : World) : Calls Try.prog 121 #[.int .i64 x, .int .i64 y] w fun e w' => e = .returned (.int .i64 (cmp1 x y)) ∧ w = w' := by
  by_cases h1 : x < y
  · have hc : cmp1 x y = -1 := by simp [cmp1, h1]
    rw [hc]
    go_enter Try.func121, Try.ntmps121
    go_wp2_with (go_at_call 136; refine (isNaN_any _ _).mono ?_; rintro e w' ⟨rfl, rfl⟩)
    go_ret
    exact ⟨rfl, rfl⟩
  · by_cases h2 : y < x
    · have hc : cmp1 x y = 1 := by simp [cmp1, h1, h2]
      rw [hc]
      go_enter Try.func121, Try.ntmps121
      go_wp2_with (go_at_call 136; refine (isNaN_any _ _).mono ?_; rintro e w' ⟨rfl, rfl⟩)
      go_ret
      exact ⟨rfl, rfl⟩
    · have hc : cmp1 x y = 0 := by simp [cmp1, h1, h2]
      rw [hc]
      go_enter Try.func121, Try.ntmps121
      go_wp2_with (go_at_call 136; refine (isNaN_any _ _).mono ?_; rintro e w' ⟨rfl, rfl⟩)
      go_ret
      exact ⟨rfl, rfl⟩
def cmp3 (t u : Nat → Int) : Int := if cmp1 (t 0) (u 0) ≠ 0 then cmp1 (t 0) (u 0) else if cmp1 (t 1) (u 1) ≠ 0 then cmp1 (t 1) (u 1) else cmp1 (t 2) (u 2)
theorem cmp1_lt (x y : Int) : (cmp1 x y < 0 ↔ x < y) ∧ (cmp1 x y = 0 ↔ x = y) := by
  unfold cmp1
  split
  · omega
  · split <;> omega
theorem cmp3_less (t u : Nat → Int) : decide (0 ≤ cmp3 t u) = !lessT t u := by
  have h0 := cmp1_lt (t 0) (u 0)
  have h1 := cmp1_lt (t 1) (u 1)
  have h2 := cmp1_lt (t 2) (u 2)
  rw [Bool.eq_iff_iff]
  unfold cmp3 lessT
  simp only [decide_eq_true_eq, Bool.not_eq_true', Bool.or_eq_false_iff, Bool.and_eq_false_iff, decide_eq_false_iff_not]
  split
  · omega
  · split <;> omega
theorem compare3_any (A A' : Option Addr) (c c' : Nat) (t u : Nat → Int) (w : World) (hS : SlI w A 3 t) (hS' : SlI w A' 3 u) : Calls Try.prog 83 #[.slice A 3 c, .slice A' 3 c'] w
    fun e w' => e = .returned (.int .i64 (cmp3 t u)) ∧ Below w.heap.size w w' := by
  have hc : cmp3 t u = if cmp1 (t 0) (u 0) ≠ 0 then cmp1 (t 0) (u 0) else if cmp1 (t 1) (u 1) ≠ 0 then cmp1 (t 1) (u 1) else cmp1 (t 2) (u 2) := rfl
  have x0 := fun W => cmpI_any (t 0) (u 0) W
  have x1 := fun W => cmpI_any (t 1) (u 1) W
  have x2 := fun W => cmpI_any (t 2) (u 2) W
  generalize cmp3 t u = res at hc ⊢
  generalize cmp1 (t 0) (u 0) = s0 at x0 hc
  generalize cmp1 (t 1) (u 1) = s1 at x1 hc
  generalize cmp1 (t 2) (u 2) = s2 at x2 hc
  have X0 := Lib.hid x0
  have X1 := Lib.hid x1
  have X2 := Lib.hid x2
  have HC := Lib.hid hc
  clear x0 x1 x2 hc
  go_enter Try.func83, Try.ntmps83
  go_wp2
  go_loopw [11] (fun v wr => ∃ j : Nat, j ≤ 3 ∧ v = .int .i64 j ∧ Hid (0 < j → s0 = 0) ∧ Hid (1 < j → s1 = 0) ∧ Hid (2 < j → s2 = 0) ∧ Below w.heap.size w wr) (fun v _ => 3 - (intOf v).toNat)
  case atStart => exact ⟨0, by omega, rfl, fun h => absurd h (by omega), fun h => absurd h (by omega), fun h => absurd h (by omega), Below.refl _ _⟩
  case round =>
    obtain ⟨j, hj, rfl, g0, g1, g2, hbr⟩ := hrel
    have hzr := hbr.size
    obtain ⟨b, off, rfl, hbl, hbl2, c0⟩ := hS.at (k := 0) hbr (by omega)
    obtain ⟨b', off', hA', _, _, c1⟩ := hS.at (k := 1) hbr (by omega)
    obtain ⟨rfl, rfl⟩ : b = b' ∧ off = off' := by simpa using hA'
    obtain ⟨b', off', hA2, _, _, c2⟩ := hS.at (k := 2) hbr (by omega)
    obtain ⟨rfl, rfl⟩ : b = b' ∧ off = off' := by simpa using hA2
    obtain ⟨d, of2, rfl, hdl, hdl2, d0⟩ := hS'.at (k := 0) hbr (by omega)
    obtain ⟨b', off', hA3, _, _, d1⟩ := hS'.at (k := 1) hbr (by omega)
    obtain ⟨rfl, rfl⟩ : d = b' ∧ of2 = off' := by simpa using hA3
    obtain ⟨b', off', hA4, _, _, d2⟩ := hS'.at (k := 2) hbr (by omega)
    obtain ⟨rfl, rfl⟩ : d = b' ∧ of2 = off' := by simpa using hA4
    clear hA' hA2 hA3 hA4 hS hS'
    simp only [Nat.add_zero] at c0 d0
    obtain rfl | rfl | rfl | rfl : j = 0 ∨ j = 1 ∨ j = 2 ∨ j = 3 := by omega
    · by_cases hs : s0 = 0
      · subst hs
        go_wp2_with (go_at_call 121; refine (X0.out _).mono ?_; rintro e w' ⟨rfl, rfl⟩)
        go_roundw
        case rel => exact ⟨1, by omega, by go_num, fun _ => by trivial, fun h => absurd h (by omega), fun h => absurd h (by omega), by repeat' (first | (with_reducible exact Below.refl _ _) | (with_reducible assumption) | (with_reducible refine Below.alloc ?_ ?_ _) | (with_reducible refine Below.drew ?_) | (with_reducible refine Below.setCell ?_ ?_ _) | (with_reducible refine Below.stepB (by assumption) ?_ ?_) | go_size)⟩
        case measure => simp [intOf]
      · have HR : Hid (s0 = res) := by show _ = _; rw [HC.out, if_pos hs]
        go_wp2_with (go_at_call 121; refine (X0.out _).mono ?_; rintro e w' ⟨rfl, rfl⟩)
        go_ret
        exact ⟨ret_int HR.out, by repeat' (first | (with_reducible exact Below.refl _ _) | (with_reducible assumption) | (with_reducible refine Below.alloc ?_ ?_ _) | (with_reducible refine Below.drew ?_) | (with_reducible refine Below.setCell ?_ ?_ _) | (with_reducible refine Below.stepB (by assumption) ?_ ?_) | go_size)⟩
    · have e0 : s0 = 0 := g0 (by omega)
      subst e0
      by_cases hs : s1 = 0
      · subst hs
        go_wp2_with (go_at_call 121; refine (X1.out _).mono ?_; rintro e w' ⟨rfl, rfl⟩)
        go_roundw
        case rel => exact ⟨2, by omega, by go_num, fun _ => by trivial, fun _ => by trivial, fun h => absurd h (by omega), by repeat' (first | (with_reducible exact Below.refl _ _) | (with_reducible assumption) | (with_reducible refine Below.alloc ?_ ?_ _) | (with_reducible refine Below.drew ?_) | (with_reducible refine Below.setCell ?_ ?_ _) | (with_reducible refine Below.stepB (by assumption) ?_ ?_) | go_size)⟩
        case measure => simp [intOf]
      · have HR : Hid (s1 = res) := by show _ = _; rw [HC.out, if_neg (by simp), if_pos hs]
        go_wp2_with (go_at_call 121; refine (X1.out _).mono ?_; rintro e w' ⟨rfl, rfl⟩)
        go_ret
        exact ⟨ret_int HR.out, by repeat' (first | (with_reducible exact Below.refl _ _) | (with_reducible assumption) | (with_reducible refine Below.alloc ?_ ?_ _) | (with_reducible refine Below.drew ?_) | (with_reducible refine Below.setCell ?_ ?_ _) | (with_reducible refine Below.stepB (by assumption) ?_ ?_) | go_size)⟩
    · have e0 : s0 = 0 := g0 (by omega)
      have e1 : s1 = 0 := g1 (by omega)
      subst e0 e1
      by_cases hs : s2 = 0
      · subst hs
        go_wp2_with (go_at_call 121; refine (X2.out _).mono ?_; rintro e w' ⟨rfl, rfl⟩)
        go_roundw
        case rel => exact ⟨3, by omega, by go_num, fun _ => by trivial, fun _ => by trivial, fun _ => by trivial, by repeat' (first | (with_reducible exact Below.refl _ _) | (with_reducible assumption) | (with_reducible refine Below.alloc ?_ ?_ _) | (with_reducible refine Below.drew ?_) | (with_reducible refine Below.setCell ?_ ?_ _) | (with_reducible refine Below.stepB (by assumption) ?_ ?_) | go_size)⟩
        case measure => simp [intOf]
      · have HR : Hid (s2 = res) := by show _ = _; rw [HC.out, if_neg (by simp), if_neg (by simp)]
        go_wp2_with (go_at_call 121; refine (X2.out _).mono ?_; rintro e w' ⟨rfl, rfl⟩)
        go_ret
        exact ⟨ret_int HR.out, by repeat' (first | (with_reducible exact Below.refl _ _) | (with_reducible assumption) | (with_reducible refine Below.alloc ?_ ?_ _) | (with_reducible refine Below.drew ?_) | (with_reducible refine Below.setCell ?_ ?_ _) | (with_reducible refine Below.stepB (by assumption) ?_ ?_) | go_size)⟩
    · have HR : Hid (0 = res) := by
        show _ = _
        have e0 : s0 = 0 := g0 (by omega)
        have e1 : s1 = 0 := g1 (by omega)
        have e2 : s2 = 0 := g2 (by omega)
        rw [HC.out, e0, e1, e2]; rfl
      clear c0 c1 c2 d0 d1 d2
      go_wp2
      go_ret
      exact ⟨ret_int HR.out, by repeat' (first | (with_reducible exact Below.refl _ _) | (with_reducible assumption) | (with_reducible refine Below.alloc ?_ ?_ _) | (with_reducible refine Below.drew ?_) | (with_reducible refine Below.setCell ?_ ?_ _) | (with_reducible refine Below.stepB (by assumption) ?_ ?_) | go_size)⟩
theorem indexI_any (A : Option Addr) (n c : Nat) (L : Nat → Int) (x : Int) (w : World) (hS : SlI w A n L) (hn : n ≤ 1048576) : Calls Try.prog 122 #[.slice A n c, .int .i64 x] w
    fun e w' => e = .returned (.int .i64 (idxP (fun i => decide (x = L i)) n)) ∧ Below w.heap.size w w' := by
  go_enter Try.func122, Try.ntmps122
  go_wp2
  go_loopw [8] (fun v wr => ∃ k : Nat, k ≤ n ∧ v = .int .i64 k ∧ Hid (∀ i, i < k → decide (x = L i) = false) ∧ Below w.heap.size w wr) (fun v _ => n - (intOf v).toNat)
  case atStart => exact ⟨0, Nat.zero_le _, rfl, fun i hi => absurd hi (by omega), Below.refl _ _⟩
  case round =>
    obtain ⟨k, hk, rfl, hall, hbr⟩ := hrel
    have hzr := hbr.size
    by_cases hlt : k < n
    · obtain ⟨b, off, rfl, hbl, hbl2, c0⟩ := hS.at hbr hlt
      clear hS
      by_cases hq : x = L k
      · have HQ := Lib.hid (idxP_some (p := fun i => decide (x = L i)) (by simpa using hq) hall n hlt)
        have hq2 : (x == L k) = true := by simpa using hq
        clear hq
        go_wp2
        go_ret
        exact ⟨ret_int HQ.out.symm, by repeat' (first | (with_reducible exact Below.refl _ _) | (with_reducible assumption) | (with_reducible refine Below.alloc ?_ ?_ _) | (with_reducible refine Below.drew ?_) | (with_reducible refine Below.setCell ?_ ?_ _) | (with_reducible refine Below.stepB (by assumption) ?_ ?_) | go_size)⟩
      · have hall2 : Hid (∀ i, i < k + 1 → decide (x = L i) = false) := fun i hi => by
          rcases Nat.lt_or_ge i k with h1 | h1
          · exact hall i h1
          · obtain rfl : i = k := by omega
            simpa using hq
        go_wp2
        go_roundw
        case rel => exact ⟨k + 1, by omega, by go_num, hall2, by repeat' (first | (with_reducible exact Below.refl _ _) | (with_reducible assumption) | (with_reducible refine Below.alloc ?_ ?_ _) | (with_reducible refine Below.drew ?_) | (with_reducible refine Below.setCell ?_ ?_ _) | (with_reducible refine Below.stepB (by assumption) ?_ ?_) | go_size)⟩
        case measure => simp [intOf]; omega
    · obtain rfl : k = n := by omega
      clear hS
      go_wp2
      go_ret
      exact ⟨ret_int (idxP_none hall).symm, by repeat' (first | (with_reducible exact Below.refl _ _) | (with_reducible assumption) | (with_reducible refine Below.alloc ?_ ?_ _) | (with_reducible refine Below.drew ?_) | (with_reducible refine Below.setCell ?_ ?_ _) | (with_reducible refine Below.stepB (by assumption) ?_ ?_) | go_size)⟩
theorem containsI_any (A : Option Addr) (n c : Nat) (L : Nat → Int) (x : Int) (w : World) (hS : SlI w A n L) (hn : n ≤ 1048576) : Calls Try.prog 85 #[.slice A n c, .int .i64 x] w
    fun e w' => e = .returned (.bool (hasP (fun i => decide (x = L i)) n)) ∧ Below w.heap.size w w' := by
  have hc := Lib.hid (fun W (hb : Below w.heap.size w W) => indexI_any A n c L x W (hS.below hb) hn)
  unfold hasP
  clear hS
  generalize idxP (fun i => decide (x = L i)) n = r at hc ⊢
  go_enter Try.func85, Try.ntmps85
  go_wp2_with fail
  refine (hc.out _ (by repeat' (first | (with_reducible exact Below.refl _ _) | (with_reducible assumption) | (with_reducible refine Below.alloc ?_ ?_ _) | (with_reducible refine Below.drew ?_) | (with_reducible refine Below.setCell ?_ ?_ _) | (with_reducible refine Below.stepB (by assumption) ?_ ?_) | go_size))).mono ?_
  rintro e w1 ⟨rfl, hbw1⟩
  obtain ⟨hzw1, hcw1, hfw1⟩ := bfacts hbw1; (try simp at hzw1 hcw1 hfw1); (try (have : w.heap.size < w1.heap.size := by omega)); (try (have : w.heap.size + 1 < w1.heap.size := by omega)); (try (have : w.heap.size + 1 + 1 < w1.heap.size := by omega)); (try (have : w.heap.size + 1 + 1 + 1 < w1.heap.size := by omega))
  go_wp2
  go_ret
  exact ⟨rfl, by repeat' (first | (with_reducible exact Below.refl _ _) | (with_reducible assumption) | (with_reducible refine Below.alloc ?_ ?_ _) | (with_reducible refine Below.drew ?_) | (with_reducible refine Below.setCell ?_ ?_ _) | (with_reducible refine Below.stepB (by assumption) ?_ ?_) | go_size)⟩
theorem spEq_run (a b c d : Int) (w : World) : (Op.equalIn 10000 26 (.agg #[.int .i64 a, .int .i64 b]) (.agg #[.int .i64 c, .int .i64 d])).run Try.prog w = .ok (decide (a = c ∧ b = d)) w := by
  have u3 := Try.underlying3
  have a3 := Try.isAgg3
  have z3 := Try.sizeOf3
  have hS : Try.prog.underlying 26 = some (.struct (Try.prog.fieldsOf 26)) := by kernel_rfl
  have hp : Try.prog.stoodInHeld 26 = false := by kernel_rfl
  rw [show (10000 : Nat) = 9999 + 1 from rfl, run_equalIn_agg w 9999 26 _ _ hS hp]
  simp only [Program.fieldsOf, Try.underlying26]
  go_simp
  by_cases h1 : a = c <;> by_cases h2 : b = d <;> simp [h1, h2]
theorem spGuard : Try.prog.eqGuardType Try.prog.depth 26 = false := by kernel_rfl
theorem indexSp_any (A : Option Addr) (n c : Nat) (S : Nat → SP) (p : SP) (w : World) (hS : SlSP w A n S) (hn : n ≤ 1048576) : Calls Try.prog 120 #[.slice A n c, .agg #[.int .i64 p.x, .int .i64 p.y]] w
    fun e w' => e = .returned (.int .i64 (idxP (fun k => decide ((S k).x = p.x ∧ (S k).y = p.y)) n)) ∧ Below w.heap.size w w' := by
  go_enter Try.func120, Try.ntmps120
  go_wp2
  go_loopw [8] (fun v wr => ∃ k : Nat, k ≤ n ∧ v = .int .i64 k ∧ Hid (∀ i, i < k → decide ((S i).x = p.x ∧ (S i).y = p.y) = false) ∧ Blk wr w.heap.size 26 #[.int .i64 p.x, .int .i64 p.y] ∧ Below w.heap.size w wr) (fun v _ => n - (intOf v).toNat)
  case atStart => exact ⟨0, Nat.zero_le _, rfl, fun i hi => absurd hi (by omega), Blk.new _ _ _, by repeat' (first | (with_reducible exact Below.refl _ _) | (with_reducible assumption) | (with_reducible refine Below.alloc ?_ ?_ _) | (with_reducible refine Below.drew ?_) | (with_reducible refine Below.setCell ?_ ?_ _) | (with_reducible refine Below.stepB (by assumption) ?_ ?_) | go_size)⟩
  case round =>
    obtain ⟨k, hk, rfl, hall, hB, hbr⟩ := hrel
    have hzr := hbr.size
    obtain ⟨hlp, p0, p1⟩ := hB.two
    by_cases hlt : k < n
    · obtain ⟨b, off, rfl, hbl, hbl2, c0, c1, hx⟩ := hS.at hbr hlt
      clear hS hx
      have hgd := spGuard
      have heq := fun W => spEq_run p.x p.y (S k).x (S k).y W
      by_cases hq : p.x = (S k).x ∧ p.y = (S k).y
      · have HQ := Lib.hid (idxP_some (p := fun k => decide ((S k).x = p.x ∧ (S k).y = p.y)) (by simp [hq.1, hq.2]) hall n hlt)
        have hd : decide (p.x = (S k).x ∧ p.y = (S k).y) = true := by simpa using hq
        rw [hd] at heq
        clear hq hd
        go_wp2
        refine wp_region_later (by kernel_rfl) (by kernel_rfl) (fun hlx => ?_)
        repeat (go_big_quiet_step (fail))
        refine wpQuiet_nil ?_
        clear hlx
        intro w3 hbw3
        obtain ⟨hzw3, hcw3, hfw3⟩ := bfacts hbw3; (try simp at hzw3 hcw3 hfw3); (try (have : w.heap.size < w3.heap.size := by omega)); (try (have : w.heap.size + 1 < w3.heap.size := by omega)); (try (have : w.heap.size + 1 + 1 < w3.heap.size := by omega)); (try (have : w.heap.size + 1 + 1 + 1 < w3.heap.size := by omega))
        go_wp2
        go_ret
        exact ⟨ret_int HQ.out.symm, by repeat' (first | (with_reducible exact Below.refl _ _) | (with_reducible assumption) | (with_reducible refine Below.alloc ?_ ?_ _) | (with_reducible refine Below.drew ?_) | (with_reducible refine Below.setCell ?_ ?_ _) | (with_reducible refine Below.stepB (by assumption) ?_ ?_) | go_size)⟩
      · have hall2 : Hid (∀ i, i < k + 1 → decide ((S i).x = p.x ∧ (S i).y = p.y) = false) := fun i hi => by
          rcases Nat.lt_or_ge i k with h1 | h1
          · exact hall i h1
          · obtain rfl : i = k := by omega
            simp only [decide_eq_false_iff_not]
            exact fun hh => hq ⟨hh.1.symm, hh.2.symm⟩
        have hd : decide (p.x = (S k).x ∧ p.y = (S k).y) = false := by simpa using hq
        rw [hd] at heq
        clear hq hd
        have HB := Lib.hid hB
        clear hB
        go_wp2
        refine wp_region_later (by kernel_rfl) (by kernel_rfl) (fun hlx => ?_)
        repeat (go_big_quiet_step (fail))
        refine wpQuiet_nil ?_
        clear hlx
        intro w3 hbw3
        obtain ⟨hzw3, hcw3, hfw3⟩ := bfacts hbw3; (try simp at hzw3 hcw3 hfw3); (try (have : w.heap.size < w3.heap.size := by omega)); (try (have : w.heap.size + 1 < w3.heap.size := by omega)); (try (have : w.heap.size + 1 + 1 < w3.heap.size := by omega)); (try (have : w.heap.size + 1 + 1 + 1 < w3.heap.size := by omega))
        go_wp2
        go_roundw
        case rel => exact ⟨k + 1, by omega, by go_num, hall2, HB.out.below hbw3 hlp, by repeat' (first | (with_reducible exact Below.refl _ _) | (with_reducible assumption) | (with_reducible refine Below.alloc ?_ ?_ _) | (with_reducible refine Below.drew ?_) | (with_reducible refine Below.setCell ?_ ?_ _) | (with_reducible refine Below.stepB (by assumption) ?_ ?_) | go_size)⟩
        case measure => simp [intOf]; omega
    · obtain rfl : k = n := by omega
      clear hS
      go_wp2
      go_ret
      exact ⟨ret_int (idxP_none hall).symm, by repeat' (first | (with_reducible exact Below.refl _ _) | (with_reducible assumption) | (with_reducible refine Below.alloc ?_ ?_ _) | (with_reducible refine Below.drew ?_) | (with_reducible refine Below.setCell ?_ ?_ _) | (with_reducible refine Below.stepB (by assumption) ?_ ?_) | go_size)⟩
theorem containsSp_any (A : Option Addr) (n c : Nat) (S : Nat → SP) (p : SP) (w : World) (hS : SlSP w A n S) (hn : n ≤ 1048576) : Calls Try.prog 81 #[.slice A n c, .agg #[.int .i64 p.x, .int .i64 p.y]] w
    fun e w' => e = .returned (.bool (hasP (fun k => decide ((S k).x = p.x ∧ (S k).y = p.y)) n)) ∧ Below w.heap.size w w' := by
  have hc := Lib.hid (fun W (hb : Below w.heap.size w W) => indexSp_any A n c S p W (hS.below hb) hn)
  unfold hasP
  clear hS
  generalize idxP (fun k => decide ((S k).x = p.x ∧ (S k).y = p.y)) n = r at hc ⊢
  go_enter Try.func81, Try.ntmps81
  go_wp2_with fail
  refine (hc.out _ (by repeat' (first | (with_reducible exact Below.refl _ _) | (with_reducible assumption) | (with_reducible refine Below.alloc ?_ ?_ _) | (with_reducible refine Below.drew ?_) | (with_reducible refine Below.setCell ?_ ?_ _) | (with_reducible refine Below.stepB (by assumption) ?_ ?_) | go_size))).mono ?_
  rintro e w1 ⟨rfl, hbw1⟩
  obtain ⟨hzw1, hcw1, hfw1⟩ := bfacts hbw1; (try simp at hzw1 hcw1 hfw1); (try (have : w.heap.size < w1.heap.size := by omega)); (try (have : w.heap.size + 1 < w1.heap.size := by omega)); (try (have : w.heap.size + 1 + 1 < w1.heap.size := by omega)); (try (have : w.heap.size + 1 + 1 + 1 < w1.heap.size := by omega))
  go_wp2
  go_ret
  exact ⟨rfl, by repeat' (first | (with_reducible exact Below.refl _ _) | (with_reducible assumption) | (with_reducible refine Below.alloc ?_ ?_ _) | (with_reducible refine Below.drew ?_) | (with_reducible refine Below.setCell ?_ ?_ _) | (with_reducible refine Below.stepB (by assumption) ?_ ?_) | go_size)⟩
theorem AreSpots_any (A : Option Addr) (n c : Nat) (S : Nat → SP) (w : World) (hS : SlSP w A n S) (hn : n ≤ 1048576) : Calls Try.prog 80 #[.slice A n c] w
    fun e w' => e = .returned (.bool (spotsB S n)) ∧ Below w.heap.size w w' := by
  go_enter Try.func80, Try.ntmps80
  go_wp2
  go_loopw [7] (fun v wr => ∃ k : Nat, k ≤ n ∧ v = .int .i64 k ∧ spN S k = true ∧ Below w.heap.size w wr) (fun v _ => n - (intOf v).toNat)
  case atStart => exact ⟨0, Nat.zero_le _, rfl, rfl, Below.refl _ _⟩
  case round =>
    obtain ⟨k, hk, rfl, hall, hbr⟩ := hrel
    have HALL := Lib.hid hall
    clear hall
    have hzr := hbr.size
    by_cases hlt : k < n
    · obtain ⟨b, off, rfl, hbl, hbl2, c0, c1, hx⟩ := hS.at hbr hlt
      clear hS hx
      have hp := fun W => IsSpot_any (S k).x (S k).y W
      rcases Bool.eq_false_or_eq_true (spotB (S k).x (S k).y) with hq | hq
      · rw [hq] at hp
        have HP := Lib.hid hp
        have HN : Hid (spN S (k + 1) = true) := allUpto_hit HALL.out hq
        clear hp hq
        go_wp2_with (go_at_call 67; refine (HP.out _).mono ?_; rintro e w2 ⟨rfl, hbw2⟩; obtain ⟨hzw2, hcw2, hfw2⟩ := bfacts hbw2; (try simp at hzw2 hcw2 hfw2); (try (have : w.heap.size < w2.heap.size := by omega)); (try (have : w.heap.size + 1 < w2.heap.size := by omega)); (try (have : w.heap.size + 1 + 1 < w2.heap.size := by omega)); (try (have : w.heap.size + 1 + 1 + 1 < w2.heap.size := by omega)))
        go_roundw
        case rel => exact ⟨k + 1, by omega, by go_num, HN.out, by repeat' (first | (with_reducible exact Below.refl _ _) | (with_reducible assumption) | (with_reducible refine Below.alloc ?_ ?_ _) | (with_reducible refine Below.drew ?_) | (with_reducible refine Below.setCell ?_ ?_ _) | (with_reducible refine Below.stepB (by assumption) ?_ ?_) | go_size)⟩
        case measure => simp [intOf]; omega
      · rw [hq] at hp
        have HP := Lib.hid hp
        have HN : Hid (false = spotsB S n) := by show _ = _; rw [spotsB, spN, allUpto_not (k := k) hq n hlt]; rfl
        clear hp hq
        go_wp2_with (go_at_call 67; refine (HP.out _).mono ?_; rintro e w2 ⟨rfl, hbw2⟩; obtain ⟨hzw2, hcw2, hfw2⟩ := bfacts hbw2; (try simp at hzw2 hcw2 hfw2); (try (have : w.heap.size < w2.heap.size := by omega)); (try (have : w.heap.size + 1 < w2.heap.size := by omega)); (try (have : w.heap.size + 1 + 1 < w2.heap.size := by omega)); (try (have : w.heap.size + 1 + 1 + 1 < w2.heap.size := by omega)))
        go_ret
        exact ⟨ret_bool HN.out, by repeat' (first | (with_reducible exact Below.refl _ _) | (with_reducible assumption) | (with_reducible refine Below.alloc ?_ ?_ _) | (with_reducible refine Below.drew ?_) | (with_reducible refine Below.setCell ?_ ?_ _) | (with_reducible refine Below.stepB (by assumption) ?_ ?_) | go_size)⟩
    · obtain rfl : k = n := by omega
      clear hS
      go_wp2
      go_ret
      exact ⟨ret_bool (by rw [spotsB, HALL.out]; simp; omega), by repeat' (first | (with_reducible exact Below.refl _ _) | (with_reducible assumption) | (with_reducible refine Below.alloc ?_ ?_ _) | (with_reducible refine Below.drew ?_) | (with_reducible refine Below.setCell ?_ ?_ _) | (with_reducible refine Below.stepB (by assumption) ?_ ?_) | go_size)⟩
theorem l2Spots_any (A : Option Addr) (n c : Nat) (S : Nat → SP) (w : World) (hS : SlSP w A n S) (hn : n ≤ 1048576) : Calls Try.prog 123 #[.slice A n c] w
    fun e w' => e = .returned (.bool (spotsB S n)) ∧ Below w.heap.size w w' := by
  go_enter Try.func123, Try.ntmps123
  go_wp2
  go_loopw [3] (fun v wr => ∃ k : Nat, k ≤ n ∧ v = .int .i64 k ∧ spN S k = true ∧ Below w.heap.size w wr) (fun v _ => n - (intOf v).toNat)
  case atStart => exact ⟨0, Nat.zero_le _, rfl, rfl, Below.refl _ _⟩
  case round =>
    obtain ⟨k, hk, rfl, hall, hbr⟩ := hrel
    have HALL := Lib.hid hall
    clear hall
    have hzr := hbr.size
    by_cases hlt : k < n
    · obtain ⟨b, off, rfl, hbl, hbl2, c0, c1, hx⟩ := hS.at hbr hlt
      clear hS hx
      have hp := fun W => l2Spot_any (S k).x (S k).y W
      rcases Bool.eq_false_or_eq_true (spotB (S k).x (S k).y) with hq | hq
      · rw [hq] at hp
        have HP := Lib.hid hp
        have HN : Hid (spN S (k + 1) = true) := allUpto_hit HALL.out hq
        clear hp hq
        go_wp2_with (go_at_call 64; refine (HP.out _).mono ?_; rintro e w2 ⟨rfl, hbw2⟩; obtain ⟨hzw2, hcw2, hfw2⟩ := bfacts hbw2; (try simp at hzw2 hcw2 hfw2); (try (have : w.heap.size < w2.heap.size := by omega)); (try (have : w.heap.size + 1 < w2.heap.size := by omega)); (try (have : w.heap.size + 1 + 1 < w2.heap.size := by omega)); (try (have : w.heap.size + 1 + 1 + 1 < w2.heap.size := by omega)))
        go_roundw
        case rel => exact ⟨k + 1, by omega, by go_num, HN.out, by repeat' (first | (with_reducible exact Below.refl _ _) | (with_reducible assumption) | (with_reducible refine Below.alloc ?_ ?_ _) | (with_reducible refine Below.drew ?_) | (with_reducible refine Below.setCell ?_ ?_ _) | (with_reducible refine Below.stepB (by assumption) ?_ ?_) | go_size)⟩
        case measure => simp [intOf]; omega
      · rw [hq] at hp
        have HP := Lib.hid hp
        have HN : Hid (false = spotsB S n) := by show _ = _; rw [spotsB, spN, allUpto_not (k := k) hq n hlt]; rfl
        clear hp hq
        go_wp2_with (go_at_call 64; refine (HP.out _).mono ?_; rintro e w2 ⟨rfl, hbw2⟩; obtain ⟨hzw2, hcw2, hfw2⟩ := bfacts hbw2; (try simp at hzw2 hcw2 hfw2); (try (have : w.heap.size < w2.heap.size := by omega)); (try (have : w.heap.size + 1 < w2.heap.size := by omega)); (try (have : w.heap.size + 1 + 1 < w2.heap.size := by omega)); (try (have : w.heap.size + 1 + 1 + 1 < w2.heap.size := by omega)))
        go_ret
        exact ⟨ret_bool HN.out, by repeat' (first | (with_reducible exact Below.refl _ _) | (with_reducible assumption) | (with_reducible refine Below.alloc ?_ ?_ _) | (with_reducible refine Below.drew ?_) | (with_reducible refine Below.setCell ?_ ?_ _) | (with_reducible refine Below.stepB (by assumption) ?_ ?_) | go_size)⟩
    · obtain rfl : k = n := by omega
      clear hS
      go_wp2
      go_ret
      exact ⟨ret_bool (by rw [spotsB, HALL.out]; simp; omega), by repeat' (first | (with_reducible exact Below.refl _ _) | (with_reducible assumption) | (with_reducible refine Below.alloc ?_ ?_ _) | (with_reducible refine Below.drew ?_) | (with_reducible refine Below.setCell ?_ ?_ _) | (with_reducible refine Below.stepB (by assumption) ?_ ?_) | go_size)⟩
set_option maxHeartbeats 1000000 in
theorem isTriangle_any (A : Option Addr) (n c : Nat) (S : Nat → SP) (t : Nat → Int) (w : World) (hS : SlSP w A n S) (hn : n ≤ 1048576) (hsp : ∀ i, i < n → spB (S i) = true) :
    Calls Try.prog 82 #[.slice A n c, .agg #[.int .i64 (t 0), .int .i64 (t 1), .int .i64 (t 2)]] w
    fun e w' => e = .returned (.bool (trB S n t)) ∧ Below w.heap.size w w' := by
  have i0 : ∀ w, (Instr.index 41 (.agg #[.int .i64 (t 0), .int .i64 (t 1), .int .i64 (t 2)]) (.int .i64 0)).run Try.prog w = .ok (.int .i64 (t 0)) w := fun _ => by kernel_rfl
  have i1 : ∀ w, (Instr.index 41 (.agg #[.int .i64 (t 0), .int .i64 (t 1), .int .i64 (t 2)]) (.int .i64 1)).run Try.prog w = .ok (.int .i64 (t 1)) w := fun _ => by kernel_rfl
  have i2 : ∀ w, (Instr.index 41 (.agg #[.int .i64 (t 0), .int .i64 (t 1), .int .i64 (t 2)]) (.int .i64 2)).run Try.prog w = .ok (.int .i64 (t 2)) w := fun _ => by kernel_rfl
  have HS := Lib.hid hS
  have HSP := Lib.hid hsp
  have HNE : Hid (t 1 = t 2 → trB S n t = false) := trB_ne
  clear hS hsp
  go_enter Try.func82, Try.ntmps82
  go_wp2
  go_loopw [9] (fun v wr => ∃ j : Nat, j ≤ 3 ∧ v = .int .i64 j ∧ Hid (0 < j → inB (t 0) 0 ((n : Int) - 1) = true) ∧ Hid (1 < j → inB (t 1) 0 ((n : Int) - 1) = true) ∧ Hid (2 < j → inB (t 2) 0 ((n : Int) - 1) = true) ∧ Blk wr w.heap.size 41 #[.int .i64 (t 0), .int .i64 (t 1), .int .i64 (t 2)] ∧ Below w.heap.size w wr) (fun v _ => 3 - (intOf v).toNat)
  case atStart => exact ⟨0, by omega, rfl, fun h => absurd h (by omega), fun h => absurd h (by omega), fun h => absurd h (by omega), Blk.new _ _ _, by repeat' (first | (with_reducible exact Below.refl _ _) | (with_reducible assumption) | (with_reducible refine Below.alloc ?_ ?_ _) | (with_reducible refine Below.drew ?_) | (with_reducible refine Below.setCell ?_ ?_ _) | (with_reducible refine Below.stepB (by assumption) ?_ ?_) | go_size)⟩
  case round =>
    obtain ⟨j, hj, rfl, g0, g1, g2, hB, hbr⟩ := hrel
    have hzr := hbr.size
    have hlB := hB.lt
    have HB := Lib.hid hB
    have b0 : wr.cell? ⟨w.heap.size, 0, none⟩ = some (.int .i64 (t 0)) := hB.cell 0
    have b1 : wr.cell? ⟨w.heap.size, 1, none⟩ = some (.int .i64 (t 1)) := hB.cell 1
    have b2 : wr.cell? ⟨w.heap.size, 2, none⟩ = some (.int .i64 (t 2)) := hB.cell 2
    clear hB
    obtain rfl | rfl | rfl | rfl : j = 0 ∨ j = 1 ∨ j = 2 ∨ j = 3 := by omega
    · rcases Bool.eq_false_or_eq_true (inB (t 0) 0 ((n : Int) - 1)) with hq | hq
      · have HQ := Lib.hid hq
        go_wp2_with (go_at_call 79; refine (inside_any _ _ _ _).mono ?_; rintro e w' ⟨rfl, rfl⟩)
        go_roundw
        case rel => exact ⟨1, by omega, by go_num, fun _ => HQ.out, fun h => absurd h (by omega), fun h => absurd h (by omega), HB.out, hbr⟩
        case measure => simp [intOf]
      · have HN : Hid (false = trB S n t) := by show _ = _; rw [trB, idxB, hq]; rfl
        go_wp2_with (go_at_call 79; refine (inside_any _ _ _ _).mono ?_; rintro e w' ⟨rfl, rfl⟩)
        go_ret
        exact ⟨ret_bool HN.out, hbr⟩
    · rcases Bool.eq_false_or_eq_true (inB (t 1) 0 ((n : Int) - 1)) with hq | hq
      · have HQ := Lib.hid hq
        go_wp2_with (go_at_call 79; refine (inside_any _ _ _ _).mono ?_; rintro e w' ⟨rfl, rfl⟩)
        go_roundw
        case rel => exact ⟨2, by omega, by go_num, fun _ => g0 (by omega), fun _ => HQ.out, fun h => absurd h (by omega), HB.out, hbr⟩
        case measure => simp [intOf]
      · have HN : Hid (false = trB S n t) := by show _ = _; rw [trB, idxB, hq]; simp
        go_wp2_with (go_at_call 79; refine (inside_any _ _ _ _).mono ?_; rintro e w' ⟨rfl, rfl⟩)
        go_ret
        exact ⟨ret_bool HN.out, hbr⟩
    · rcases Bool.eq_false_or_eq_true (inB (t 2) 0 ((n : Int) - 1)) with hq | hq
      · have HQ := Lib.hid hq
        go_wp2_with (go_at_call 79; refine (inside_any _ _ _ _).mono ?_; rintro e w' ⟨rfl, rfl⟩)
        go_roundw
        case rel => exact ⟨3, by omega, by go_num, fun _ => g0 (by omega), fun _ => g1 (by omega), fun _ => HQ.out, HB.out, hbr⟩
        case measure => simp [intOf]
      · have HN : Hid (false = trB S n t) := by show _ = _; rw [trB, idxB, hq]; simp
        go_wp2_with (go_at_call 79; refine (inside_any _ _ _ _).mono ?_; rintro e w' ⟨rfl, rfl⟩)
        go_ret
        exact ⟨ret_bool HN.out, hbr⟩
    · have hix : idxB n t = true := by rw [idxB, g0 (by omega), g1 (by omega), g2 (by omega)]; rfl
      have hc := Lib.hid (fun W (hb : Below w.heap.size w W) => cornersOf_any A n c S t W (HS.out.below hb) hn hix)
      have hbd := fun j hj => idxB_at hix j hj
      have hs : ∀ j, j < 3 → spB (cn S t j) = true := fun j hj => HSP.out _ (by have := hbd j hj; omega)
      have hx := Lib.hid (fun W => crossOf_any (cn S t 0).x (cn S t 0).y (cn S t 1).x (cn S t 1).y (cn S t 2).x (cn S t 2).y W (hs 0 (by omega)) (hs 1 (by omega)) (hs 2 (by omega)))
      have HV : Hid (trB S n t = (decide (t 0 < t 1) && (decide (t 0 < t 2) && decide (0 < crD (cn S t 0).x (cn S t 0).y (cn S t 1).x (cn S t 1).y (cn S t 2).x (cn S t 2).y)))) := by show _ = _; rw [trB, hix]; rfl
      generalize crD (cn S t 0).x (cn S t 0).y (cn S t 1).x (cn S t 1).y (cn S t 2).x (cn S t 2).y = cv at hx HV
      clear hix hbd hs g0 g1 g2
      by_cases h1 : t 0 < t 1
      · by_cases h2 : t 0 < t 2
        · by_cases h3 : t 1 = t 2
          · have HN := Lib.hid (HNE.out h3)
            have e3 : (t 1 == t 2) = true := by simpa using h3
            have e4 : (t 1 != t 2) = false := by simpa using h3
            clear h3
            go_wp2_with (go_at_call 84; refine (hc.out _ (by repeat' (first | (with_reducible exact Below.refl _ _) | (with_reducible assumption) | (with_reducible refine Below.alloc ?_ ?_ _) | (with_reducible refine Below.drew ?_) | (with_reducible refine Below.setCell ?_ ?_ _) | (with_reducible refine Below.stepB (by assumption) ?_ ?_) | go_size))).mono ?_; rintro e w2 ⟨rfl, hbw2⟩; obtain ⟨hzw2, hcw2, hfw2⟩ := bfacts hbw2; (try simp at hzw2 hcw2 hfw2); (try (have : w.heap.size < w2.heap.size := by omega)); (try (have : w.heap.size + 1 < w2.heap.size := by omega)); (try (have : w.heap.size + 1 + 1 < w2.heap.size := by omega)); (try (have : w.heap.size + 1 + 1 + 1 < w2.heap.size := by omega)))
            go_ret
            exact ⟨ret_bool HN.out.symm, by repeat' (first | (with_reducible exact Below.refl _ _) | (with_reducible assumption) | (with_reducible refine Below.alloc ?_ ?_ _) | (with_reducible refine Below.drew ?_) | (with_reducible refine Below.setCell ?_ ?_ _) | (with_reducible refine Below.stepB (by assumption) ?_ ?_) | go_size)⟩
          · go_wp2_with (first | (go_at_call 84; refine (hc.out _ (by repeat' (first | (with_reducible exact Below.refl _ _) | (with_reducible assumption) | (with_reducible refine Below.alloc ?_ ?_ _) | (with_reducible refine Below.drew ?_) | (with_reducible refine Below.setCell ?_ ?_ _) | (with_reducible refine Below.stepB (by assumption) ?_ ?_) | go_size))).mono ?_; rintro e w2 ⟨rfl, hbw2⟩; obtain ⟨hzw2, hcw2, hfw2⟩ := bfacts hbw2; (try simp at hzw2 hcw2 hfw2); (try (have : w.heap.size < w2.heap.size := by omega)); (try (have : w.heap.size + 1 < w2.heap.size := by omega)); (try (have : w.heap.size + 1 + 1 < w2.heap.size := by omega)); (try (have : w.heap.size + 1 + 1 + 1 < w2.heap.size := by omega))) | (go_at_call 68; refine (hx.out _).mono ?_; rintro e w3 ⟨rfl, hbw3⟩; obtain ⟨hzw3, hcw3, hfw3⟩ := bfacts hbw3; (try simp at hzw3 hcw3 hfw3); (try (have : w.heap.size < w3.heap.size := by omega)); (try (have : w.heap.size + 1 < w3.heap.size := by omega)); (try (have : w.heap.size + 1 + 1 < w3.heap.size := by omega)); (try (have : w.heap.size + 1 + 1 + 1 < w3.heap.size := by omega))))
            go_ret
            exact ⟨ret_bool (by rw [HV.out]; simp [h1, h2, h3]), by repeat' (first | (with_reducible exact Below.refl _ _) | (with_reducible assumption) | (with_reducible refine Below.alloc ?_ ?_ _) | (with_reducible refine Below.drew ?_) | (with_reducible refine Below.setCell ?_ ?_ _) | (with_reducible refine Below.stepB (by assumption) ?_ ?_) | go_size)⟩
        · go_wp2_with (go_at_call 84; refine (hc.out _ (by repeat' (first | (with_reducible exact Below.refl _ _) | (with_reducible assumption) | (with_reducible refine Below.alloc ?_ ?_ _) | (with_reducible refine Below.drew ?_) | (with_reducible refine Below.setCell ?_ ?_ _) | (with_reducible refine Below.stepB (by assumption) ?_ ?_) | go_size))).mono ?_; rintro e w2 ⟨rfl, hbw2⟩; obtain ⟨hzw2, hcw2, hfw2⟩ := bfacts hbw2; (try simp at hzw2 hcw2 hfw2); (try (have : w.heap.size < w2.heap.size := by omega)); (try (have : w.heap.size + 1 < w2.heap.size := by omega)); (try (have : w.heap.size + 1 + 1 < w2.heap.size := by omega)); (try (have : w.heap.size + 1 + 1 + 1 < w2.heap.size := by omega)))
          go_ret
          exact ⟨ret_bool (by rw [HV.out, decide_eq_false (show ¬ t 0 < t 2 by omega)]; simp), by repeat' (first | (with_reducible exact Below.refl _ _) | (with_reducible assumption) | (with_reducible refine Below.alloc ?_ ?_ _) | (with_reducible refine Below.drew ?_) | (with_reducible refine Below.setCell ?_ ?_ _) | (with_reducible refine Below.stepB (by assumption) ?_ ?_) | go_size)⟩
      · go_wp2_with (go_at_call 84; refine (hc.out _ (by repeat' (first | (with_reducible exact Below.refl _ _) | (with_reducible assumption) | (with_reducible refine Below.alloc ?_ ?_ _) | (with_reducible refine Below.drew ?_) | (with_reducible refine Below.setCell ?_ ?_ _) | (with_reducible refine Below.stepB (by assumption) ?_ ?_) | go_size))).mono ?_; rintro e w2 ⟨rfl, hbw2⟩; obtain ⟨hzw2, hcw2, hfw2⟩ := bfacts hbw2; (try simp at hzw2 hcw2 hfw2); (try (have : w.heap.size < w2.heap.size := by omega)); (try (have : w.heap.size + 1 < w2.heap.size := by omega)); (try (have : w.heap.size + 1 + 1 < w2.heap.size := by omega)); (try (have : w.heap.size + 1 + 1 + 1 < w2.heap.size := by omega)))
        go_ret
        exact ⟨ret_bool (by rw [HV.out, decide_eq_false (show ¬ t 0 < t 1 by omega)]; simp), by repeat' (first | (with_reducible exact Below.refl _ _) | (with_reducible assumption) | (with_reducible refine Below.alloc ?_ ?_ _) | (with_reducible refine Below.drew ?_) | (with_reducible refine Below.setCell ?_ ?_ _) | (with_reducible refine Below.stepB (by assumption) ?_ ?_) | go_size)⟩
end Go.Proofs.Ytfflbkmncnaffaa
