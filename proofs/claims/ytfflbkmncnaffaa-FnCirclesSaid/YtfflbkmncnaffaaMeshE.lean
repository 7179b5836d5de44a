/- Contracts of the reference's small functions on triangles. -/
import Derived.Test.YtfflbkmncnaffaaMeshC
namespace Go.Proofs.Ytfflbkmncnaffaa
open Go.RowKit
theorem SlSP.pt {w : World} {b off n k : Nat} {S : Nat → SP} (hS : SlSP w (some ⟨b, off, none⟩) n S) (hk : k < n) : b < w.heap.size ∧ w.cell? ⟨b, off + k * 2, none⟩ = some (.int .i64 (S k).x) ∧ w.cell? ⟨b, off + k * 2 + 1, none⟩ = some (.int .i64 (S k).y) := by
  obtain ⟨b', off', hA, hbl, _, x0, x1, _⟩ := hS.at (Below.refl _ _) hk
  obtain ⟨rfl, rfl⟩ : b = b' ∧ off = off' := by simpa using hA
  exact ⟨hbl, x0, x1⟩
theorem SlSP.form {w : World} {A : Option Addr} {n k : Nat} {S : Nat → SP} (hS : SlSP w A n S) (hk : k < n) : ∃ b off, A = some ⟨b, off, none⟩ := by
  obtain ⟨b, off, hA, _⟩ := hS (by omega)
  exact ⟨b, off, hA⟩
theorem l15Turn_any (A : Option Addr) (n c : Nat) (S : Nat → SP) (t : Nat → Int) (w : World) (hS : SlSP w A n S) (_hn : n ≤ 1048576) (hsp : ∀ i, i < n → spB (S i) = true) (ht : idxB n t = true) :
    Calls Try.prog 95 #[.slice A n c, .agg #[.int .i64 (t 0), .int .i64 (t 1), .int .i64 (t 2)]] w fun e w' => e = .returned (.int .i64 (turnV S t)) ∧ Below w.heap.size w w' := by
  obtain ⟨p, q, r, hp, hq, hr, e0, e1, e2⟩ := idxB_nat ht
  have HX := Lib.hid (fun W => l2Cross_any (S p).x (S p).y (S q).x (S q).y (S r).x (S r).y W (hsp p hp) (hsp q hq) (hsp r hr))
  have hv : turnV S t = crD (S p).x (S p).y (S q).x (S q).y (S r).x (S r).y := by rw [turnV, cn, cn, cn, e0, e1, e2]; rfl
  rw [hv, e0, e1, e2]
  obtain ⟨b, off, rfl⟩ := hS.form hp
  obtain ⟨hbl, x0, x1⟩ := hS.pt hp
  obtain ⟨_, y0, y1⟩ := hS.pt hq
  obtain ⟨_, z0, z1⟩ := hS.pt hr
  clear hS hsp ht e0 e1 e2 hv
  go_enter Try.func95, Try.ntmps95
  go_wp2
  refine wp_region_later (by kernel_rfl) (by kernel_rfl) (fun hlx => ?_)
  repeat (go_big_quiet_step ((go_at_call 65; exact Later.call (HX.out _))))
  refine wpQuiet_nil ?_
  clear hlx
  intro w3 hbw3
  obtain ⟨hzw3, hcw3, hfw3⟩ := bfacts hbw3; (try simp at hzw3 hcw3 hfw3); (try (have : w.heap.size < w3.heap.size := by omega)); (try (have : w.heap.size + 1 < w3.heap.size := by omega)); (try (have : w.heap.size + 1 + 1 < w3.heap.size := by omega)); (try (have : w.heap.size + 1 + 1 + 1 < w3.heap.size := by omega))
  go_wp2
  go_ret
  exact ⟨rfl, by repeat' (first | (with_reducible exact Below.refl _ _) | (with_reducible assumption) | (with_reducible refine Below.alloc ?_ ?_ _) | (with_reducible refine Below.drew ?_) | (with_reducible refine Below.setCell ?_ ?_ _) | (with_reducible refine Below.stepB (by assumption) ?_ ?_) | go_size)⟩
theorem l15Inside_any (A : Option Addr) (n c : Nat) (S : Nat → SP) (t : Nat → Int) (p : SP) (w : World) (hS : SlSP w A n S) (_hn : n ≤ 1048576) (hsp : ∀ i, i < n → spB (S i) = true) (ht : idxB n t = true) (hp : spB p = true) :
    Calls Try.prog 118 #[.slice A n c, .agg #[.int .i64 (t 0), .int .i64 (t 1), .int .i64 (t 2)], .agg #[.int .i64 p.x, .int .i64 p.y]] w fun e w' => e = .returned (.bool (insB S t p)) ∧ Below w.heap.size w w' := by
  obtain ⟨k0, k1, k2, hk0, hk1, hk2, e0, e1, e2⟩ := idxB_nat ht
  have X0 := Lib.hid (fun W => l2Cross_any (S k0).x (S k0).y (S k1).x (S k1).y p.x p.y W (hsp k0 hk0) (hsp k1 hk1) hp)
  have X1 := Lib.hid (fun W => l2Cross_any (S k1).x (S k1).y (S k2).x (S k2).y p.x p.y W (hsp k1 hk1) (hsp k2 hk2) hp)
  have X2 := Lib.hid (fun W => l2Cross_any (S k2).x (S k2).y (S k0).x (S k0).y p.x p.y W (hsp k2 hk2) (hsp k0 hk0) hp)
  have hi : insB S t p = (decide (0 ≤ crD (S k0).x (S k0).y (S k1).x (S k1).y p.x p.y) && (decide (0 ≤ crD (S k1).x (S k1).y (S k2).x (S k2).y p.x p.y) && decide (0 ≤ crD (S k2).x (S k2).y (S k0).x (S k0).y p.x p.y))) := by rw [insB, cn, cn, cn, e0, e1, e2]; rfl
  generalize insB S t p = res at hi ⊢
  generalize crD (S k0).x (S k0).y (S k1).x (S k1).y p.x p.y = s0 at X0 hi
  generalize crD (S k1).x (S k1).y (S k2).x (S k2).y p.x p.y = s1 at X1 hi
  generalize crD (S k2).x (S k2).y (S k0).x (S k0).y p.x p.y = s2 at X2 hi
  rw [e0, e1, e2]
  obtain ⟨b, off, rfl⟩ := hS.form hk0
  have HI := Lib.hid hi
  have HS := Lib.hid hS
  clear hi hS hsp ht hp e0 e1 e2
  go_enter Try.func118, Try.ntmps118
  go_wp2
  go_loopw [7] (fun v wr => ∃ j : Nat, j ≤ 3 ∧ v = .int .i64 j ∧ Hid (0 < j → 0 ≤ s0) ∧ Hid (1 < j → 0 ≤ s1) ∧ Hid (2 < j → 0 ≤ s2) ∧ Blk wr w.heap.size 41 #[.int .i64 k0, .int .i64 k1, .int .i64 k2] ∧ Blk wr (w.heap.size + 1) 26 #[.int .i64 p.x, .int .i64 p.y] ∧ Below w.heap.size w wr) (fun v _ => 3 - (intOf v).toNat)
  case atStart => exact ⟨0, by omega, rfl, fun h => absurd h (by omega), fun h => absurd h (by omega), fun h => absurd h (by omega), (blk_newP w _ _ rfl).alloc _, blk_newP _ _ _ (by simp), by repeat' (first | (with_reducible exact Below.refl _ _) | (with_reducible assumption) | (with_reducible refine Below.alloc ?_ ?_ _) | (with_reducible refine Below.drew ?_) | (with_reducible refine Below.setCell ?_ ?_ _) | (with_reducible refine Below.stepB (by assumption) ?_ ?_) | go_size)⟩
  case round =>
    obtain ⟨j, hj, rfl, g0, g1, g2, hB, hP, hbr⟩ := hrel
    have hzr := hbr.size
    have hlB := hB.lt
    have hlP := hP.lt
    have HB := Lib.hid hB
    have HP := Lib.hid hP
    have c0 : wr.cell? ⟨w.heap.size, 0, none⟩ = some (.int .i64 k0) := hB.cell 0
    have c1 : wr.cell? ⟨w.heap.size, 1, none⟩ = some (.int .i64 k1) := hB.cell 1
    have c2 : wr.cell? ⟨w.heap.size, 2, none⟩ = some (.int .i64 k2) := hB.cell 2
    have d0 : wr.cell? ⟨w.heap.size + 1, 0, none⟩ = some (.int .i64 p.x) := hP.cell 0
    have d1 : wr.cell? ⟨w.heap.size + 1, 1, none⟩ = some (.int .i64 p.y) := hP.cell 1
    have hSr : SlSP wr (some ⟨b, off, none⟩) n S := HS.out.below hbr
    obtain ⟨hbl, x0, x1⟩ := hSr.pt hk0
    obtain ⟨_, y0, y1⟩ := hSr.pt hk1
    obtain ⟨_, z0, z1⟩ := hSr.pt hk2
    clear hB hP hSr
    obtain rfl | rfl | rfl | rfl : j = 0 ∨ j = 1 ∨ j = 2 ∨ j = 3 := by omega
    · rcases Int.lt_or_le s0 0 with hs | hs
      · have HR : Hid (false = res) := by
          show _ = _
          have : ¬ 0 ≤ s0 := by omega
          rw [HI.out]
          simp [this]
        go_wp2
        refine wp_region_later (by kernel_rfl) (by kernel_rfl) (fun hlx => ?_)
        repeat (go_big_quiet_step ((go_at_call 65; exact Later.call (X0.out _))))
        refine wpQuiet_nil ?_
        clear hlx
        intro w3 hbw3
        obtain ⟨hzw3, hcw3, hfw3⟩ := bfacts hbw3; (try simp at hzw3 hcw3 hfw3); (try (have : w.heap.size < w3.heap.size := by omega)); (try (have : w.heap.size + 1 < w3.heap.size := by omega)); (try (have : w.heap.size + 1 + 1 < w3.heap.size := by omega)); (try (have : w.heap.size + 1 + 1 + 1 < w3.heap.size := by omega))
        go_wp2
        go_ret
        exact ⟨ret_bool HR.out, by repeat' (first | (with_reducible exact Below.refl _ _) | (with_reducible assumption) | (with_reducible refine Below.alloc ?_ ?_ _) | (with_reducible refine Below.drew ?_) | (with_reducible refine Below.setCell ?_ ?_ _) | (with_reducible refine Below.stepB (by assumption) ?_ ?_) | go_size)⟩
      · go_wp2
        refine wp_region_later (by kernel_rfl) (by kernel_rfl) (fun hlx => ?_)
        repeat (go_big_quiet_step ((go_at_call 65; exact Later.call (X0.out _))))
        refine wpQuiet_nil ?_
        clear hlx
        intro w3 hbw3
        obtain ⟨hzw3, hcw3, hfw3⟩ := bfacts hbw3; (try simp at hzw3 hcw3 hfw3); (try (have : w.heap.size < w3.heap.size := by omega)); (try (have : w.heap.size + 1 < w3.heap.size := by omega)); (try (have : w.heap.size + 1 + 1 < w3.heap.size := by omega)); (try (have : w.heap.size + 1 + 1 + 1 < w3.heap.size := by omega))
        go_wp2
        go_roundw
        case rel => exact ⟨1, by omega, by go_num, fun _ => hs, fun h => absurd h (by omega), fun h => absurd h (by omega), HB.out.below hbw3 hlB, HP.out.below hbw3 hlP, by repeat' (first | (with_reducible exact Below.refl _ _) | (with_reducible assumption) | (with_reducible refine Below.alloc ?_ ?_ _) | (with_reducible refine Below.drew ?_) | (with_reducible refine Below.setCell ?_ ?_ _) | (with_reducible refine Below.stepB (by assumption) ?_ ?_) | go_size)⟩
        case measure => simp [intOf]
    · rcases Int.lt_or_le s1 0 with hs | hs
      · have HR : Hid (false = res) := by
          show _ = _
          have : ¬ 0 ≤ s1 := by omega
          rw [HI.out]
          simp [this]
        go_wp2
        refine wp_region_later (by kernel_rfl) (by kernel_rfl) (fun hlx => ?_)
        repeat (go_big_quiet_step ((go_at_call 65; exact Later.call (X1.out _))))
        refine wpQuiet_nil ?_
        clear hlx
        intro w3 hbw3
        obtain ⟨hzw3, hcw3, hfw3⟩ := bfacts hbw3; (try simp at hzw3 hcw3 hfw3); (try (have : w.heap.size < w3.heap.size := by omega)); (try (have : w.heap.size + 1 < w3.heap.size := by omega)); (try (have : w.heap.size + 1 + 1 < w3.heap.size := by omega)); (try (have : w.heap.size + 1 + 1 + 1 < w3.heap.size := by omega))
        go_wp2
        go_ret
        exact ⟨ret_bool HR.out, by repeat' (first | (with_reducible exact Below.refl _ _) | (with_reducible assumption) | (with_reducible refine Below.alloc ?_ ?_ _) | (with_reducible refine Below.drew ?_) | (with_reducible refine Below.setCell ?_ ?_ _) | (with_reducible refine Below.stepB (by assumption) ?_ ?_) | go_size)⟩
      · go_wp2
        refine wp_region_later (by kernel_rfl) (by kernel_rfl) (fun hlx => ?_)
        repeat (go_big_quiet_step ((go_at_call 65; exact Later.call (X1.out _))))
        refine wpQuiet_nil ?_
        clear hlx
        intro w3 hbw3
        obtain ⟨hzw3, hcw3, hfw3⟩ := bfacts hbw3; (try simp at hzw3 hcw3 hfw3); (try (have : w.heap.size < w3.heap.size := by omega)); (try (have : w.heap.size + 1 < w3.heap.size := by omega)); (try (have : w.heap.size + 1 + 1 < w3.heap.size := by omega)); (try (have : w.heap.size + 1 + 1 + 1 < w3.heap.size := by omega))
        go_wp2
        go_roundw
        case rel => exact ⟨2, by omega, by go_num, fun _ => g0 (by omega), fun _ => hs, fun h => absurd h (by omega), HB.out.below hbw3 hlB, HP.out.below hbw3 hlP, by repeat' (first | (with_reducible exact Below.refl _ _) | (with_reducible assumption) | (with_reducible refine Below.alloc ?_ ?_ _) | (with_reducible refine Below.drew ?_) | (with_reducible refine Below.setCell ?_ ?_ _) | (with_reducible refine Below.stepB (by assumption) ?_ ?_) | go_size)⟩
        case measure => simp [intOf]
    · rcases Int.lt_or_le s2 0 with hs | hs
      · have HR : Hid (false = res) := by
          show _ = _
          have : ¬ 0 ≤ s2 := by omega
          rw [HI.out]
          simp [this]
        go_wp2
        refine wp_region_later (by kernel_rfl) (by kernel_rfl) (fun hlx => ?_)
        repeat (go_big_quiet_step ((go_at_call 65; exact Later.call (X2.out _))))
        refine wpQuiet_nil ?_
        clear hlx
        intro w3 hbw3
        obtain ⟨hzw3, hcw3, hfw3⟩ := bfacts hbw3; (try simp at hzw3 hcw3 hfw3); (try (have : w.heap.size < w3.heap.size := by omega)); (try (have : w.heap.size + 1 < w3.heap.size := by omega)); (try (have : w.heap.size + 1 + 1 < w3.heap.size := by omega)); (try (have : w.heap.size + 1 + 1 + 1 < w3.heap.size := by omega))
        go_wp2
        go_ret
        exact ⟨ret_bool HR.out, by repeat' (first | (with_reducible exact Below.refl _ _) | (with_reducible assumption) | (with_reducible refine Below.alloc ?_ ?_ _) | (with_reducible refine Below.drew ?_) | (with_reducible refine Below.setCell ?_ ?_ _) | (with_reducible refine Below.stepB (by assumption) ?_ ?_) | go_size)⟩
      · go_wp2
        refine wp_region_later (by kernel_rfl) (by kernel_rfl) (fun hlx => ?_)
        repeat (go_big_quiet_step ((go_at_call 65; exact Later.call (X2.out _))))
        refine wpQuiet_nil ?_
        clear hlx
        intro w3 hbw3
        obtain ⟨hzw3, hcw3, hfw3⟩ := bfacts hbw3; (try simp at hzw3 hcw3 hfw3); (try (have : w.heap.size < w3.heap.size := by omega)); (try (have : w.heap.size + 1 < w3.heap.size := by omega)); (try (have : w.heap.size + 1 + 1 < w3.heap.size := by omega)); (try (have : w.heap.size + 1 + 1 + 1 < w3.heap.size := by omega))
        go_wp2
        go_roundw
        case rel => exact ⟨3, by omega, by go_num, fun _ => g0 (by omega), fun _ => g1 (by omega), fun _ => hs, HB.out.below hbw3 hlB, HP.out.below hbw3 hlP, by repeat' (first | (with_reducible exact Below.refl _ _) | (with_reducible assumption) | (with_reducible refine Below.alloc ?_ ?_ _) | (with_reducible refine Below.drew ?_) | (with_reducible refine Below.setCell ?_ ?_ _) | (with_reducible refine Below.stepB (by assumption) ?_ ?_) | go_size)⟩
        case measure => simp [intOf]
    · have HR : Hid (true = res) := by
        show _ = _
        have h1 : 0 ≤ s0 := g0 (by omega)
        have h2 : 0 ≤ s1 := g1 (by omega)
        have h3 : 0 ≤ s2 := g2 (by omega)
        rw [HI.out]; simp [h1, h2, h3]
      clear c0 c1 c2 d0 d1 x0 x1 y0 y1 z0 z1
      go_wp2
      go_ret
      exact ⟨ret_bool HR.out, by repeat' (first | (with_reducible exact Below.refl _ _) | (with_reducible assumption) | (with_reducible refine Below.alloc ?_ ?_ _) | (with_reducible refine Below.drew ?_) | (with_reducible refine Below.setCell ?_ ?_ _) | (with_reducible refine Below.stepB (by assumption) ?_ ?_) | go_size)⟩
set_option maxHeartbeats 1000000 in
theorem l15One_any (A : Option Addr) (n c : Nat) (S : Nat → SP) (t : Nat → Int) (w : World) (hS : SlSP w A n S) (hn : n ≤ 1048576) (hsp : ∀ i, i < n → spB (S i) = true) :
    Calls Try.prog 124 #[.slice A n c, .agg #[.int .i64 (t 0), .int .i64 (t 1), .int .i64 (t 2)]] w fun e w' => e = .returned (.bool (trB S n t)) ∧ Below w.heap.size w w' := by
  have HS := Lib.hid hS
  have HSP := Lib.hid hsp
  clear hS hsp
  go_enter Try.func124, Try.ntmps124
  go_wp2
  go_loopw [5] (fun v wr => ∃ j : Nat, j ≤ 3 ∧ v = .int .i64 j ∧ Hid (0 < j → inB (t 0) 0 ((n : Int) - 1) = true) ∧ Hid (1 < j → inB (t 1) 0 ((n : Int) - 1) = true) ∧ Hid (2 < j → inB (t 2) 0 ((n : Int) - 1) = true) ∧ Blk wr w.heap.size 41 #[.int .i64 (t 0), .int .i64 (t 1), .int .i64 (t 2)] ∧ Below w.heap.size w wr) (fun v _ => 3 - (intOf v).toNat)
  case atStart => exact ⟨0, by omega, rfl, fun h => absurd h (by omega), fun h => absurd h (by omega), fun h => absurd h (by omega), Blk.new _ _ _, by repeat' (first | (with_reducible exact Below.refl _ _) | (with_reducible assumption) | (with_reducible refine Below.alloc ?_ ?_ _) | (with_reducible refine Below.drew ?_) | (with_reducible refine Below.setCell ?_ ?_ _) | (with_reducible refine Below.stepB (by assumption) ?_ ?_) | go_size)⟩
  case round =>
    obtain ⟨j, hj, rfl, g0, g1, g2, hB, hbr⟩ := hrel
    have hzr := hbr.size
    have hlB := hB.lt
    have HB := Lib.hid hB
    have b0 : wr.cell? ⟨w.heap.size, 0, none⟩ = some (.int .i64 (t 0)) := hB.cell 0
    have b1 : wr.cell? ⟨w.heap.size, 1, none⟩ = some (.int .i64 (t 1)) := hB.cell 1
    have b2 : wr.cell? ⟨w.heap.size, 2, none⟩ = some (.int .i64 (t 2)) := hB.cell 2
    clear hB
    obtain rfl | rfl | rfl | rfl : j = 0 ∨ j = 1 ∨ j = 2 ∨ j = 3 := by omega
    · rcases Bool.eq_false_or_eq_true (inB (t 0) 0 ((n : Int) - 1)) with hq | hq
      · have HQ := Lib.hid hq
        go_wp2_with (go_at_call 92; refine (l1In_any _ _ _ _).mono ?_; rintro e w' ⟨rfl, rfl⟩)
        go_roundw
        case rel => exact ⟨1, by omega, by go_num, fun _ => HQ.out, fun h => absurd h (by omega), fun h => absurd h (by omega), HB.out, hbr⟩
        case measure => simp [intOf]
      · have HN : Hid (false = trB S n t) := by show _ = _; rw [trB, idxB, hq]; simp
        go_wp2_with (go_at_call 92; refine (l1In_any _ _ _ _).mono ?_; rintro e w' ⟨rfl, rfl⟩)
        go_ret
        exact ⟨ret_bool HN.out, hbr⟩
    · rcases Bool.eq_false_or_eq_true (inB (t 1) 0 ((n : Int) - 1)) with hq | hq
      · have HQ := Lib.hid hq
        go_wp2_with (go_at_call 92; refine (l1In_any _ _ _ _).mono ?_; rintro e w' ⟨rfl, rfl⟩)
        go_roundw
        case rel => exact ⟨2, by omega, by go_num, fun _ => g0 (by omega), fun _ => HQ.out, fun h => absurd h (by omega), HB.out, hbr⟩
        case measure => simp [intOf]
      · have HN : Hid (false = trB S n t) := by show _ = _; rw [trB, idxB, hq]; simp
        go_wp2_with (go_at_call 92; refine (l1In_any _ _ _ _).mono ?_; rintro e w' ⟨rfl, rfl⟩)
        go_ret
        exact ⟨ret_bool HN.out, hbr⟩
    · rcases Bool.eq_false_or_eq_true (inB (t 2) 0 ((n : Int) - 1)) with hq | hq
      · have HQ := Lib.hid hq
        go_wp2_with (go_at_call 92; refine (l1In_any _ _ _ _).mono ?_; rintro e w' ⟨rfl, rfl⟩)
        go_roundw
        case rel => exact ⟨3, by omega, by go_num, fun _ => g0 (by omega), fun _ => g1 (by omega), fun _ => HQ.out, HB.out, hbr⟩
        case measure => simp [intOf]
      · have HN : Hid (false = trB S n t) := by show _ = _; rw [trB, idxB, hq]; simp
        go_wp2_with (go_at_call 92; refine (l1In_any _ _ _ _).mono ?_; rintro e w' ⟨rfl, rfl⟩)
        go_ret
        exact ⟨ret_bool HN.out, hbr⟩
    · have hix : idxB n t = true := by rw [idxB, g0 (by omega), g1 (by omega), g2 (by omega)]; rfl
      have hx := Lib.hid (fun W (hb : Below w.heap.size w W) => l15Turn_any A n c S t W (HS.out.below hb) hn HSP.out hix)
      have HV : Hid (trB S n t = (decide (t 0 < t 1) && (decide (t 0 < t 2) && decide (0 < turnV S t)))) := by show _ = _; rw [trB, hix]; rfl
      generalize turnV S t = cv at hx HV
      clear hix g0 g1 g2
      by_cases h1 : t 0 < t 1
      · by_cases h2 : t 0 < t 2
        · go_wp2_with (go_at_call 95; refine (hx.out _ (by repeat' (first | (with_reducible exact Below.refl _ _) | (with_reducible assumption) | (with_reducible refine Below.alloc ?_ ?_ _) | (with_reducible refine Below.drew ?_) | (with_reducible refine Below.setCell ?_ ?_ _) | (with_reducible refine Below.stepB (by assumption) ?_ ?_) | go_size))).mono ?_; rintro e w3 ⟨rfl, hbw3⟩; obtain ⟨hzw3, hcw3, hfw3⟩ := bfacts hbw3; (try simp at hzw3 hcw3 hfw3); (try (have : w.heap.size < w3.heap.size := by omega)); (try (have : w.heap.size + 1 < w3.heap.size := by omega)); (try (have : w.heap.size + 1 + 1 < w3.heap.size := by omega)); (try (have : w.heap.size + 1 + 1 + 1 < w3.heap.size := by omega)))
          go_ret
          exact ⟨ret_bool (by rw [HV.out]; simp [h1, h2]), by repeat' (first | (with_reducible exact Below.refl _ _) | (with_reducible assumption) | (with_reducible refine Below.alloc ?_ ?_ _) | (with_reducible refine Below.drew ?_) | (with_reducible refine Below.setCell ?_ ?_ _) | (with_reducible refine Below.stepB (by assumption) ?_ ?_) | go_size)⟩
        · go_wp2
          go_ret
          exact ⟨ret_bool (by rw [HV.out, decide_eq_false (show ¬ t 0 < t 2 by omega)]; simp), by repeat' (first | (with_reducible exact Below.refl _ _) | (with_reducible assumption) | (with_reducible refine Below.alloc ?_ ?_ _) | (with_reducible refine Below.drew ?_) | (with_reducible refine Below.setCell ?_ ?_ _) | (with_reducible refine Below.stepB (by assumption) ?_ ?_) | go_size)⟩
      · go_wp2
        go_ret
        exact ⟨ret_bool (by rw [HV.out, decide_eq_false (show ¬ t 0 < t 1 by omega)]; simp), by repeat' (first | (with_reducible exact Below.refl _ _) | (with_reducible assumption) | (with_reducible refine Below.alloc ?_ ?_ _) | (with_reducible refine Below.drew ?_) | (with_reducible refine Below.setCell ?_ ?_ _) | (with_reducible refine Below.stepB (by assumption) ?_ ?_) | go_size)⟩
theorem l15Less_any (t u : Nat → Int) (w : World) : Calls Try.prog 125 #[.agg #[.int .i64 (t 0), .int .i64 (t 1), .int .i64 (t 2)], .agg #[.int .i64 (u 0), .int .i64 (u 1), .int .i64 (u 2)]] w fun e w' => e = .returned (.bool (lessT t u)) ∧ Below w.heap.size w w' := by
  have hv : lessT t u = (decide (t 0 < u 0) || (decide (t 0 = u 0) && (decide (t 1 < u 1) || (decide (t 1 = u 1) && decide (t 2 < u 2))))) := rfl
  generalize lessT t u = res at hv ⊢
  generalize t 0 = a0 at hv ⊢
  generalize t 1 = a1 at hv ⊢
  generalize t 2 = a2 at hv ⊢
  generalize u 0 = b0 at hv ⊢
  generalize u 1 = b1 at hv ⊢
  generalize u 2 = b2 at hv ⊢
  have HV := Lib.hid hv
  clear hv
  go_enter Try.func125, Try.ntmps125
  go_wp2
  go_loopw [5] (fun v wr => ∃ j : Nat, j ≤ 3 ∧ v = .int .i64 j ∧ Hid (0 < j → a0 = b0) ∧ Hid (1 < j → a1 = b1) ∧ Hid (2 < j → a2 = b2) ∧ Blk wr w.heap.size 41 #[.int .i64 a0, .int .i64 a1, .int .i64 a2] ∧ Blk wr (w.heap.size + 1) 41 #[.int .i64 b0, .int .i64 b1, .int .i64 b2] ∧ Below w.heap.size w wr) (fun v _ => 3 - (intOf v).toNat)
  case atStart => exact ⟨0, by omega, rfl, fun h => absurd h (by omega), fun h => absurd h (by omega), fun h => absurd h (by omega), (blk_newP w _ _ rfl).alloc _, blk_newP _ _ _ (by simp), by repeat' (first | (with_reducible exact Below.refl _ _) | (with_reducible assumption) | (with_reducible refine Below.alloc ?_ ?_ _) | (with_reducible refine Below.drew ?_) | (with_reducible refine Below.setCell ?_ ?_ _) | (with_reducible refine Below.stepB (by assumption) ?_ ?_) | go_size)⟩
  case round =>
    obtain ⟨j, hj, rfl, g0, g1, g2, hB, hP, hbr⟩ := hrel
    have hzr := hbr.size
    have hlB := hB.lt
    have hlP := hP.lt
    have HB := Lib.hid hB
    have HP := Lib.hid hP
    have c0 : wr.cell? ⟨w.heap.size, 0, none⟩ = some (.int .i64 a0) := hB.cell 0
    have c1 : wr.cell? ⟨w.heap.size, 1, none⟩ = some (.int .i64 a1) := hB.cell 1
    have c2 : wr.cell? ⟨w.heap.size, 2, none⟩ = some (.int .i64 a2) := hB.cell 2
    have d0 : wr.cell? ⟨w.heap.size + 1, 0, none⟩ = some (.int .i64 b0) := hP.cell 0
    have d1 : wr.cell? ⟨w.heap.size + 1, 1, none⟩ = some (.int .i64 b1) := hP.cell 1
    have d2 : wr.cell? ⟨w.heap.size + 1, 2, none⟩ = some (.int .i64 b2) := hP.cell 2
    clear hB hP
    obtain rfl | rfl | rfl | rfl : j = 0 ∨ j = 1 ∨ j = 2 ∨ j = 3 := by omega
    · by_cases hq : a0 = b0
      · have HQ := Lib.hid hq
        have e1 : (a0 != b0) = false := by simpa using hq
        clear hq
        go_wp2
        refine wp_region_later (by kernel_rfl) (by kernel_rfl) (fun hlx => ?_)
        repeat (go_big_quiet_step (fail))
        refine wpQuiet_nil ?_
        clear hlx
        intro w3 hbw3
        obtain ⟨hzw3, hcw3, hfw3⟩ := bfacts hbw3; (try simp at hzw3 hcw3 hfw3); (try (have : w.heap.size < w3.heap.size := by omega)); (try (have : w.heap.size + 1 < w3.heap.size := by omega)); (try (have : w.heap.size + 1 + 1 < w3.heap.size := by omega)); (try (have : w.heap.size + 1 + 1 + 1 < w3.heap.size := by omega))
        go_wp2
        go_roundw
        case rel => exact ⟨1, by omega, by go_num, fun _ => HQ.out, fun h => absurd h (by omega), fun h => absurd h (by omega), HB.out.below hbw3 hlB, HP.out.below hbw3 hlP, by repeat' (first | (with_reducible exact Below.refl _ _) | (with_reducible assumption) | (with_reducible refine Below.alloc ?_ ?_ _) | (with_reducible refine Below.drew ?_) | (with_reducible refine Below.setCell ?_ ?_ _) | (with_reducible refine Below.stepB (by assumption) ?_ ?_) | go_size)⟩
        case measure => simp [intOf]
      · have HN : Hid (decide (a0 < b0) = res) := by
          show _ = _
          rw [HV.out, Bool.eq_iff_iff]
          simp
          omega
        have e1 : (a0 != b0) = true := by simpa using hq
        clear hq
        go_wp2
        refine wp_region_later (by kernel_rfl) (by kernel_rfl) (fun hlx => ?_)
        repeat (go_big_quiet_step (fail))
        refine wpQuiet_nil ?_
        clear hlx
        intro w3 hbw3
        obtain ⟨hzw3, hcw3, hfw3⟩ := bfacts hbw3; (try simp at hzw3 hcw3 hfw3); (try (have : w.heap.size < w3.heap.size := by omega)); (try (have : w.heap.size + 1 < w3.heap.size := by omega)); (try (have : w.heap.size + 1 + 1 < w3.heap.size := by omega)); (try (have : w.heap.size + 1 + 1 + 1 < w3.heap.size := by omega))
        go_wp2
        refine wp_region_later (by kernel_rfl) (by kernel_rfl) (fun hlx => ?_)
        repeat (go_big_quiet_step (fail))
        refine wpQuiet_nil ?_
        clear hlx
        intro w4 hbw4
        obtain ⟨hzw4, hcw4, hfw4⟩ := bfacts hbw4; (try simp at hzw4 hcw4 hfw4); (try (have : w.heap.size < w4.heap.size := by omega)); (try (have : w.heap.size + 1 < w4.heap.size := by omega)); (try (have : w.heap.size + 1 + 1 < w4.heap.size := by omega)); (try (have : w.heap.size + 1 + 1 + 1 < w4.heap.size := by omega))
        go_wp2
        go_ret
        exact ⟨ret_bool HN.out, by repeat' (first | (with_reducible exact Below.refl _ _) | (with_reducible assumption) | (with_reducible refine Below.alloc ?_ ?_ _) | (with_reducible refine Below.drew ?_) | (with_reducible refine Below.setCell ?_ ?_ _) | (with_reducible refine Below.stepB (by assumption) ?_ ?_) | go_size)⟩
    · by_cases hq : a1 = b1
      · have HQ := Lib.hid hq
        have e1 : (a1 != b1) = false := by simpa using hq
        clear hq
        go_wp2
        refine wp_region_later (by kernel_rfl) (by kernel_rfl) (fun hlx => ?_)
        repeat (go_big_quiet_step (fail))
        refine wpQuiet_nil ?_
        clear hlx
        intro w3 hbw3
        obtain ⟨hzw3, hcw3, hfw3⟩ := bfacts hbw3; (try simp at hzw3 hcw3 hfw3); (try (have : w.heap.size < w3.heap.size := by omega)); (try (have : w.heap.size + 1 < w3.heap.size := by omega)); (try (have : w.heap.size + 1 + 1 < w3.heap.size := by omega)); (try (have : w.heap.size + 1 + 1 + 1 < w3.heap.size := by omega))
        go_wp2
        go_roundw
        case rel => exact ⟨2, by omega, by go_num, fun _ => g0 (by omega), fun _ => HQ.out, fun h => absurd h (by omega), HB.out.below hbw3 hlB, HP.out.below hbw3 hlP, by repeat' (first | (with_reducible exact Below.refl _ _) | (with_reducible assumption) | (with_reducible refine Below.alloc ?_ ?_ _) | (with_reducible refine Below.drew ?_) | (with_reducible refine Below.setCell ?_ ?_ _) | (with_reducible refine Below.stepB (by assumption) ?_ ?_) | go_size)⟩
        case measure => simp [intOf]
      · have HN : Hid (decide (a1 < b1) = res) := by
          show _ = _
          have e0 : a0 = b0 := g0 (by omega)
          rw [HV.out, Bool.eq_iff_iff]
          simp
          omega
        have e1 : (a1 != b1) = true := by simpa using hq
        clear hq
        go_wp2
        refine wp_region_later (by kernel_rfl) (by kernel_rfl) (fun hlx => ?_)
        repeat (go_big_quiet_step (fail))
        refine wpQuiet_nil ?_
        clear hlx
        intro w3 hbw3
        obtain ⟨hzw3, hcw3, hfw3⟩ := bfacts hbw3; (try simp at hzw3 hcw3 hfw3); (try (have : w.heap.size < w3.heap.size := by omega)); (try (have : w.heap.size + 1 < w3.heap.size := by omega)); (try (have : w.heap.size + 1 + 1 < w3.heap.size := by omega)); (try (have : w.heap.size + 1 + 1 + 1 < w3.heap.size := by omega))
        go_wp2
        refine wp_region_later (by kernel_rfl) (by kernel_rfl) (fun hlx => ?_)
        repeat (go_big_quiet_step (fail))
        refine wpQuiet_nil ?_
        clear hlx
        intro w4 hbw4
        obtain ⟨hzw4, hcw4, hfw4⟩ := bfacts hbw4; (try simp at hzw4 hcw4 hfw4); (try (have : w.heap.size < w4.heap.size := by omega)); (try (have : w.heap.size + 1 < w4.heap.size := by omega)); (try (have : w.heap.size + 1 + 1 < w4.heap.size := by omega)); (try (have : w.heap.size + 1 + 1 + 1 < w4.heap.size := by omega))
        go_wp2
        go_ret
        exact ⟨ret_bool HN.out, by repeat' (first | (with_reducible exact Below.refl _ _) | (with_reducible assumption) | (with_reducible refine Below.alloc ?_ ?_ _) | (with_reducible refine Below.drew ?_) | (with_reducible refine Below.setCell ?_ ?_ _) | (with_reducible refine Below.stepB (by assumption) ?_ ?_) | go_size)⟩
    · by_cases hq : a2 = b2
      · have HQ := Lib.hid hq
        have e1 : (a2 != b2) = false := by simpa using hq
        clear hq
        go_wp2
        refine wp_region_later (by kernel_rfl) (by kernel_rfl) (fun hlx => ?_)
        repeat (go_big_quiet_step (fail))
        refine wpQuiet_nil ?_
        clear hlx
        intro w3 hbw3
        obtain ⟨hzw3, hcw3, hfw3⟩ := bfacts hbw3; (try simp at hzw3 hcw3 hfw3); (try (have : w.heap.size < w3.heap.size := by omega)); (try (have : w.heap.size + 1 < w3.heap.size := by omega)); (try (have : w.heap.size + 1 + 1 < w3.heap.size := by omega)); (try (have : w.heap.size + 1 + 1 + 1 < w3.heap.size := by omega))
        go_wp2
        go_roundw
        case rel => exact ⟨3, by omega, by go_num, fun _ => g0 (by omega), fun _ => g1 (by omega), fun _ => HQ.out, HB.out.below hbw3 hlB, HP.out.below hbw3 hlP, by repeat' (first | (with_reducible exact Below.refl _ _) | (with_reducible assumption) | (with_reducible refine Below.alloc ?_ ?_ _) | (with_reducible refine Below.drew ?_) | (with_reducible refine Below.setCell ?_ ?_ _) | (with_reducible refine Below.stepB (by assumption) ?_ ?_) | go_size)⟩
        case measure => simp [intOf]
      · have HN : Hid (decide (a2 < b2) = res) := by
          show _ = _
          have e0 : a0 = b0 := g0 (by omega)
          have e1 : a1 = b1 := g1 (by omega)
          rw [HV.out, Bool.eq_iff_iff]
          simp
          omega
        have e1 : (a2 != b2) = true := by simpa using hq
        clear hq
        go_wp2
        refine wp_region_later (by kernel_rfl) (by kernel_rfl) (fun hlx => ?_)
        repeat (go_big_quiet_step (fail))
        refine wpQuiet_nil ?_
        clear hlx
        intro w3 hbw3
        obtain ⟨hzw3, hcw3, hfw3⟩ := bfacts hbw3; (try simp at hzw3 hcw3 hfw3); (try (have : w.heap.size < w3.heap.size := by omega)); (try (have : w.heap.size + 1 < w3.heap.size := by omega)); (try (have : w.heap.size + 1 + 1 < w3.heap.size := by omega)); (try (have : w.heap.size + 1 + 1 + 1 < w3.heap.size := by omega))
        go_wp2
        refine wp_region_later (by kernel_rfl) (by kernel_rfl) (fun hlx => ?_)
        repeat (go_big_quiet_step (fail))
        refine wpQuiet_nil ?_
        clear hlx
        intro w4 hbw4
        obtain ⟨hzw4, hcw4, hfw4⟩ := bfacts hbw4; (try simp at hzw4 hcw4 hfw4); (try (have : w.heap.size < w4.heap.size := by omega)); (try (have : w.heap.size + 1 < w4.heap.size := by omega)); (try (have : w.heap.size + 1 + 1 < w4.heap.size := by omega)); (try (have : w.heap.size + 1 + 1 + 1 < w4.heap.size := by omega))
        go_wp2
        go_ret
        exact ⟨ret_bool HN.out, by repeat' (first | (with_reducible exact Below.refl _ _) | (with_reducible assumption) | (with_reducible refine Below.alloc ?_ ?_ _) | (with_reducible refine Below.drew ?_) | (with_reducible refine Below.setCell ?_ ?_ _) | (with_reducible refine Below.stepB (by assumption) ?_ ?_) | go_size)⟩
    · have HN : Hid (false = res) := by
        show _ = _
        have e0 : a0 = b0 := g0 (by omega)
        have e1 : a1 = b1 := g1 (by omega)
        have e2 : a2 = b2 := g2 (by omega)
        rw [HV.out, e0, e1, e2]; simp
      clear c0 c1 c2 d0 d1 d2
      go_wp2
      go_ret
      exact ⟨ret_bool HN.out, by repeat' (first | (with_reducible exact Below.refl _ _) | (with_reducible assumption) | (with_reducible refine Below.alloc ?_ ?_ _) | (with_reducible refine Below.drew ?_) | (with_reducible refine Below.setCell ?_ ?_ _) | (with_reducible refine Below.stepB (by assumption) ?_ ?_) | go_size)⟩
theorem l15Empty_any (A : Option Addr) (n c : Nat) (S : Nat → SP) (t : Nat → Int) (w : World) (hS : SlSP w A n S) (hn : n ≤ 1048576) (hsp : ∀ i, i < n → spB (S i) = true) (ht : idxB n t = true) :
    Calls Try.prog 127 #[.slice A n c, .agg #[.int .i64 (t 0), .int .i64 (t 1), .int .i64 (t 2)]] w fun e w' => e = .returned (.bool (emptyB S n t)) ∧ Below w.heap.size w w' := by
  have HS := Lib.hid hS
  have HSP := Lib.hid hsp
  have HT := Lib.hid ht
  clear hS hsp ht
  go_enter Try.func127, Try.ntmps127
  go_wp2
  go_loopw [5] (fun v wr => ∃ k : Nat, k ≤ n ∧ v = .int .i64 k ∧ Hid (allUpto (emptyP S t) k = true) ∧ Blk wr w.heap.size 41 #[.int .i64 (t 0), .int .i64 (t 1), .int .i64 (t 2)] ∧ Below w.heap.size w wr) (fun v _ => n - (intOf v).toNat)
  case atStart => exact ⟨0, Nat.zero_le _, rfl, rfl, Blk.new _ _ _, by repeat' (first | (with_reducible exact Below.refl _ _) | (with_reducible assumption) | (with_reducible refine Below.alloc ?_ ?_ _) | (with_reducible refine Below.drew ?_) | (with_reducible refine Below.setCell ?_ ?_ _) | (with_reducible refine Below.stepB (by assumption) ?_ ?_) | go_size)⟩
  case round =>
    obtain ⟨k, hk, rfl, hem, hB, hbr⟩ := hrel
    have hzr := hbr.size
    have hlB := hB.lt
    have HB := Lib.hid hB
    have b0 : wr.cell? ⟨w.heap.size, 0, none⟩ = some (.int .i64 (t 0)) := hB.cell 0
    have b1 : wr.cell? ⟨w.heap.size, 1, none⟩ = some (.int .i64 (t 1)) := hB.cell 1
    have b2 : wr.cell? ⟨w.heap.size, 2, none⟩ = some (.int .i64 (t 2)) := hB.cell 2
    clear hB
    by_cases hlt : k < n
    · obtain ⟨b, off, rfl⟩ := HS.out.form hlt
      have hSr : SlSP wr (some ⟨b, off, none⟩) n S := HS.out.below hbr
      obtain ⟨hbl, x0, x1⟩ := hSr.pt hlt
      have HI := Lib.hid (fun (x : Later wr) => l15Inside_any (some ⟨b, off, none⟩) n c S t (S k) x.w (HS.out.below (Later.old x (B := w.heap.size) hbr (by omega))) hn HSP.out HT.out (HSP.out k hlt))
      have HE : Hid (emptyP S t k = (isCn t k || !insB S t (S k))) := rfl
      have HCN : Hid (isCn t k = (decide (t 0 = (k : Int)) || (decide (t 1 = (k : Int)) || decide (t 2 = (k : Int))))) := rfl
      generalize insB S t (S k) = ii at HI HE
      have HBR := Lib.hid hbr
      clear hSr hbr
      have next : Hid (emptyP S t k = true → allUpto (emptyP S t) (k + 1) = true) := fun h => allUpto_hit hem h
      have stop : Hid (emptyP S t k = false → false = emptyB S n t) := fun h => (allUpto_not (k := k) h n hlt).symm
      generalize t 0 = a0 at *
      generalize t 1 = a1 at *
      generalize t 2 = a2 at *
      by_cases h0 : a0 = (k : Int)
      · have HN := Lib.hid (next.out (by rw [HE.out, HCN.out, h0]; simp))
        have e0 : ((k : Int) != a0) = false := by simpa using h0.symm
        clear h0 hem next
        go_wp2
        refine wp_region_later (by kernel_rfl) (by kernel_rfl) (fun hlx => ?_)
        repeat (go_big_quiet_step (fail))
        refine wpQuiet_nil ?_
        clear hlx
        intro w3 hbw3
        obtain ⟨hzw3, hcw3, hfw3⟩ := bfacts hbw3; (try simp at hzw3 hcw3 hfw3); (try (have : w.heap.size < w3.heap.size := by omega)); (try (have : w.heap.size + 1 < w3.heap.size := by omega)); (try (have : w.heap.size + 1 + 1 < w3.heap.size := by omega)); (try (have : w.heap.size + 1 + 1 + 1 < w3.heap.size := by omega))
        go_wp2
        go_roundw
        case rel => exact ⟨k + 1, by omega, by go_num, HN.out, HB.out.below hbw3 hlB, HBR.out.trans (hbw3.mono hzr)⟩
        case measure => simp [intOf]; omega
      · have e0 : ((k : Int) != a0) = true := by simpa using fun h : (k : Int) = a0 => h0 h.symm
        by_cases h1 : a1 = (k : Int)
        · have HN := Lib.hid (next.out (by rw [HE.out, HCN.out, h1]; simp))
          have e1 : ((k : Int) != a1) = false := by simpa using h1.symm
          clear h0 h1 hem next
          go_wp2
          refine wp_region_later (by kernel_rfl) (by kernel_rfl) (fun hlx => ?_)
          repeat (go_big_quiet_step (fail))
          refine wpQuiet_nil ?_
          clear hlx
          intro w3 hbw3
          obtain ⟨hzw3, hcw3, hfw3⟩ := bfacts hbw3; (try simp at hzw3 hcw3 hfw3); (try (have : w.heap.size < w3.heap.size := by omega)); (try (have : w.heap.size + 1 < w3.heap.size := by omega)); (try (have : w.heap.size + 1 + 1 < w3.heap.size := by omega)); (try (have : w.heap.size + 1 + 1 + 1 < w3.heap.size := by omega))
          go_wp2
          go_roundw
          case rel => exact ⟨k + 1, by omega, by go_num, HN.out, HB.out.below hbw3 hlB, HBR.out.trans (hbw3.mono hzr)⟩
          case measure => simp [intOf]; omega
        · have e1 : ((k : Int) != a1) = true := by simpa using fun h : (k : Int) = a1 => h1 h.symm
          by_cases h2 : a2 = (k : Int)
          · have HN := Lib.hid (next.out (by rw [HE.out, HCN.out, h2]; simp))
            have e2 : ((k : Int) != a2) = false := by simpa using h2.symm
            clear h0 h1 h2 hem next
            go_wp2
            refine wp_region_later (by kernel_rfl) (by kernel_rfl) (fun hlx => ?_)
            repeat (go_big_quiet_step (fail))
            refine wpQuiet_nil ?_
            clear hlx
            intro w3 hbw3
            obtain ⟨hzw3, hcw3, hfw3⟩ := bfacts hbw3; (try simp at hzw3 hcw3 hfw3); (try (have : w.heap.size < w3.heap.size := by omega)); (try (have : w.heap.size + 1 < w3.heap.size := by omega)); (try (have : w.heap.size + 1 + 1 < w3.heap.size := by omega)); (try (have : w.heap.size + 1 + 1 + 1 < w3.heap.size := by omega))
            go_wp2
            go_roundw
            case rel => exact ⟨k + 1, by omega, by go_num, HN.out, HB.out.below hbw3 hlB, HBR.out.trans (hbw3.mono hzr)⟩
            case measure => simp [intOf]; omega
          · have e2 : ((k : Int) != a2) = true := by simpa using fun h : (k : Int) = a2 => h2 h.symm
            have hcn : isCn t k = false := by rw [HCN.out, decide_eq_false h0, decide_eq_false h1, decide_eq_false h2]; rfl
            cases ii
            · have HN := Lib.hid (next.out (by rw [HE.out, hcn]; rfl))
              clear h0 h1 h2 hem next hcn
              go_wp2
              refine wp_region_later (by kernel_rfl) (by kernel_rfl) (fun hlx => ?_)
              repeat (go_big_quiet_step ((go_at_call 118; with_reducible exact Later.call (HI.out _))))
              refine wpQuiet_nil ?_
              clear hlx
              intro w3 hbw3
              obtain ⟨hzw3, hcw3, hfw3⟩ := bfacts hbw3; (try simp at hzw3 hcw3 hfw3); (try (have : w.heap.size < w3.heap.size := by omega)); (try (have : w.heap.size + 1 < w3.heap.size := by omega)); (try (have : w.heap.size + 1 + 1 < w3.heap.size := by omega)); (try (have : w.heap.size + 1 + 1 + 1 < w3.heap.size := by omega))
              go_wp2
              go_roundw
              case rel => exact ⟨k + 1, by omega, by go_num, HN.out, HB.out.below hbw3 hlB, HBR.out.trans (hbw3.mono hzr)⟩
              case measure => simp [intOf]; omega
            · have HN := Lib.hid (stop.out (by rw [HE.out, hcn]; rfl))
              clear h0 h1 h2 hem next hcn
              go_wp2
              refine wp_region_later (by kernel_rfl) (by kernel_rfl) (fun hlx => ?_)
              repeat (go_big_quiet_step ((go_at_call 118; with_reducible exact Later.call (HI.out _))))
              refine wpQuiet_nil ?_
              clear hlx
              intro w3 hbw3
              obtain ⟨hzw3, hcw3, hfw3⟩ := bfacts hbw3; (try simp at hzw3 hcw3 hfw3); (try (have : w.heap.size < w3.heap.size := by omega)); (try (have : w.heap.size + 1 < w3.heap.size := by omega)); (try (have : w.heap.size + 1 + 1 < w3.heap.size := by omega)); (try (have : w.heap.size + 1 + 1 + 1 < w3.heap.size := by omega))
              go_wp2
              go_ret
              exact ⟨ret_bool HN.out, HBR.out.trans (hbw3.mono hzr)⟩
    · obtain rfl : k = n := by omega
      have HN : Hid (true = emptyB S k t) := by show _ = _; rw [emptyB, hem]
      clear hem b0 b1 b2
      go_wp2
      go_ret
      exact ⟨ret_bool HN.out, hbr⟩
end Go.Proofs.Ytfflbkmncnaffaa
