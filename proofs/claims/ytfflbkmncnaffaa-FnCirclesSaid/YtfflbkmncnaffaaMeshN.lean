/- Contracts: the corner that another triangle does not have; the neighbors of a triangle. -/
import Derived.Test.YtfflbkmncnaffaaMeshH
namespace Go.Proofs.Ytfflbkmncnaffaa
open Go.RowKit
def comN (a b : Nat → Int) : Nat → Int
  | 0 => 0
  | k + 1 => comN a b k + if isCn a (b k) = true then 1 else 0
def corN (a b : Nat → Int) : Nat → Int
  | 0 => 0
  | k + 1 => if isCn a (b k) = true then corN a b k else b k
def nbB (a b : Nat → Int) : Bool := comN a b 3 == 2
theorem otherCorner_any (a b : Nat → Int) (w : World) : Calls Try.prog 91 #[.agg #[.int .i64 (a 0), .int .i64 (a 1), .int .i64 (a 2)], .agg #[.int .i64 (b 0), .int .i64 (b 1), .int .i64 (b 2)]] w
    fun e w' => e = .returned (.tuple #[.int .i64 (corN a b 3), .bool (nbB a b)]) ∧ Below w.heap.size w w' := by
  have i0 : ∀ w, (Instr.index 41 (.agg #[.int .i64 (b 0), .int .i64 (b 1), .int .i64 (b 2)]) (.int .i64 0)).run Try.prog w = .ok (.int .i64 (b 0)) w := fun _ => by kernel_rfl
  have i1 : ∀ w, (Instr.index 41 (.agg #[.int .i64 (b 0), .int .i64 (b 1), .int .i64 (b 2)]) (.int .i64 1)).run Try.prog w = .ok (.int .i64 (b 1)) w := fun _ => by kernel_rfl
  have i2 : ∀ w, (Instr.index 41 (.agg #[.int .i64 (b 0), .int .i64 (b 1), .int .i64 (b 2)]) (.int .i64 2)).run Try.prog w = .ok (.int .i64 (b 2)) w := fun _ => by kernel_rfl
  have hv : nbB a b = (comN a b 3 == 2) := rfl
  have HV := Lib.hid hv
  clear hv
  generalize nbB a b = res at HV ⊢
  go_enter Try.func91, Try.ntmps91
  go_wp2
  go_loopw [11, 6, 7] (fun vc v6 v7 wr => ∃ (k : Nat) (p q : Int), k ≤ 3 ∧ vc = .int .i64 k ∧ v6 = .int .i64 p ∧ v7 = .int .i64 q ∧ Hid (p = corN a b k) ∧ Hid (q = comN a b k) ∧ (0 ≤ q ∧ q ≤ k) ∧ Blk wr w.heap.size 41 #[.int .i64 (a 0), .int .i64 (a 1), .int .i64 (a 2)] ∧ Blk wr (w.heap.size + 1) 41 #[.int .i64 (b 0), .int .i64 (b 1), .int .i64 (b 2)] ∧ Below w.heap.size w wr) (fun vc _ _ _ => 3 - (intOf vc).toNat)
  case atStart => exact ⟨0, 0, 0, by omega, rfl, rfl, rfl, rfl, rfl, by omega, (blk_newP w _ _ rfl).alloc _, blk_newP _ _ _ (by simp), by repeat' (first | (with_reducible exact Below.refl _ _) | (with_reducible assumption) | (with_reducible refine Below.alloc ?_ ?_ _) | (with_reducible refine Below.drew ?_) | (with_reducible refine Below.setCell ?_ ?_ _) | (with_reducible refine Below.stepB (by assumption) ?_ ?_) | go_size)⟩
  case round =>
    obtain ⟨k, p, q, hk, rfl, rfl, rfl, hp, hq, hqk, hA, hB, hbr⟩ := hrel
    have hzr := hbr.size
    have hlA := hA.lt
    have hlB := hB.lt
    have HA := Lib.hid hA
    have HB := Lib.hid hB
    clear hA hB
    obtain rfl | rfl | rfl | rfl : k = 0 ∨ k = 1 ∨ k = 2 ∨ k = 3 := by omega
    · have HCI := Lib.hid (fun W (hb : Below wr.heap.size wr W) => containsI_any (some ⟨w.heap.size, 0, none⟩) 3 3 a (b 0) W (slI_blk3 (HA.out.below hb HA.out.lt)) (by omega))
      rw [isCn_has] at HCI
      have e1 : corN a b 1 = if isCn a (b 0) = true then corN a b 0 else b 0 := rfl
      have e2 : comN a b 1 = comN a b 0 + if isCn a (b 0) = true then 1 else 0 := rfl
      generalize isCn a (b 0) = ci at HCI e1 e2
      cases ci
      · have HP : Hid (b 0 = corN a b 1) := by show _ = _; rw [e1]; rfl
        have HQ : Hid (q = comN a b 1) := by show _ = _; rw [e2, ← show q = comN a b 0 from hq]; simp
        clear e1 e2 hp hq
        go_wp2_with (go_at_call 85; refine (HCI.out _ (by repeat' (first | (with_reducible exact Below.refl _ _) | (with_reducible assumption) | (with_reducible refine Below.alloc ?_ ?_ _) | (with_reducible refine Below.drew ?_) | (with_reducible refine Below.setCell ?_ ?_ _) | (with_reducible refine Below.stepB (by assumption) ?_ ?_) | go_size))).mono ?_; rintro e w7 ⟨rfl, hbw7⟩; obtain ⟨hzw7, hcw7, hfw7⟩ := bfacts hbw7; (try simp at hzw7 hcw7 hfw7); (try (have : w.heap.size < w7.heap.size := by omega)); (try (have : w.heap.size + 1 < w7.heap.size := by omega)); (try (have : w.heap.size + 1 + 1 < w7.heap.size := by omega)); (try (have : w.heap.size + 1 + 1 + 1 < w7.heap.size := by omega)))
        have hq8 : Below wr.heap.size wr w7 := by repeat' (first | (with_reducible exact Below.refl _ _) | (with_reducible assumption) | (with_reducible refine Below.alloc ?_ ?_ _) | (with_reducible refine Below.drew ?_) | (with_reducible refine Below.setCell ?_ ?_ _) | (with_reducible refine Below.stepB (by assumption) ?_ ?_) | go_size)
        go_roundw
        case rel => exact ⟨1, _, _, by omega, by go_num, rfl, rfl, HP.out, HQ.out, by omega, HA.out.below hq8 hlA, HB.out.below hq8 hlB, hbr.trans (hq8.mono hzr)⟩
        case measure => simp [intOf]
      · have HP : Hid (p = corN a b 1) := by show _ = _; rw [e1]; exact hp
        have HQ : Hid (q + 1 = comN a b 1) := by show _ = _; rw [e2, ← show q = comN a b 0 from hq]; simp
        clear e1 e2 hp hq
        go_wp2_with (go_at_call 85; refine (HCI.out _ (by repeat' (first | (with_reducible exact Below.refl _ _) | (with_reducible assumption) | (with_reducible refine Below.alloc ?_ ?_ _) | (with_reducible refine Below.drew ?_) | (with_reducible refine Below.setCell ?_ ?_ _) | (with_reducible refine Below.stepB (by assumption) ?_ ?_) | go_size))).mono ?_; rintro e w7 ⟨rfl, hbw7⟩; obtain ⟨hzw7, hcw7, hfw7⟩ := bfacts hbw7; (try simp at hzw7 hcw7 hfw7); (try (have : w.heap.size < w7.heap.size := by omega)); (try (have : w.heap.size + 1 < w7.heap.size := by omega)); (try (have : w.heap.size + 1 + 1 < w7.heap.size := by omega)); (try (have : w.heap.size + 1 + 1 + 1 < w7.heap.size := by omega)))
        have hq8 : Below wr.heap.size wr w7 := by repeat' (first | (with_reducible exact Below.refl _ _) | (with_reducible assumption) | (with_reducible refine Below.alloc ?_ ?_ _) | (with_reducible refine Below.drew ?_) | (with_reducible refine Below.setCell ?_ ?_ _) | (with_reducible refine Below.stepB (by assumption) ?_ ?_) | go_size)
        go_roundw
        case rel => exact ⟨1, p, q + 1, by omega, by go_num, rfl, by go_num, HP.out, HQ.out, by omega, HA.out.below hq8 hlA, HB.out.below hq8 hlB, hbr.trans (hq8.mono hzr)⟩
        case measure => simp [intOf]
    · have HCI := Lib.hid (fun W (hb : Below wr.heap.size wr W) => containsI_any (some ⟨w.heap.size, 0, none⟩) 3 3 a (b 1) W (slI_blk3 (HA.out.below hb HA.out.lt)) (by omega))
      rw [isCn_has] at HCI
      have e1 : corN a b 2 = if isCn a (b 1) = true then corN a b 1 else b 1 := rfl
      have e2 : comN a b 2 = comN a b 1 + if isCn a (b 1) = true then 1 else 0 := rfl
      generalize isCn a (b 1) = ci at HCI e1 e2
      cases ci
      · have HP : Hid (b 1 = corN a b 2) := by show _ = _; rw [e1]; rfl
        have HQ : Hid (q = comN a b 2) := by show _ = _; rw [e2, ← show q = comN a b 1 from hq]; simp
        clear e1 e2 hp hq
        go_wp2_with (go_at_call 85; refine (HCI.out _ (by repeat' (first | (with_reducible exact Below.refl _ _) | (with_reducible assumption) | (with_reducible refine Below.alloc ?_ ?_ _) | (with_reducible refine Below.drew ?_) | (with_reducible refine Below.setCell ?_ ?_ _) | (with_reducible refine Below.stepB (by assumption) ?_ ?_) | go_size))).mono ?_; rintro e w7 ⟨rfl, hbw7⟩; obtain ⟨hzw7, hcw7, hfw7⟩ := bfacts hbw7; (try simp at hzw7 hcw7 hfw7); (try (have : w.heap.size < w7.heap.size := by omega)); (try (have : w.heap.size + 1 < w7.heap.size := by omega)); (try (have : w.heap.size + 1 + 1 < w7.heap.size := by omega)); (try (have : w.heap.size + 1 + 1 + 1 < w7.heap.size := by omega)))
        have hq8 : Below wr.heap.size wr w7 := by repeat' (first | (with_reducible exact Below.refl _ _) | (with_reducible assumption) | (with_reducible refine Below.alloc ?_ ?_ _) | (with_reducible refine Below.drew ?_) | (with_reducible refine Below.setCell ?_ ?_ _) | (with_reducible refine Below.stepB (by assumption) ?_ ?_) | go_size)
        go_roundw
        case rel => exact ⟨2, _, _, by omega, by go_num, rfl, rfl, HP.out, HQ.out, by omega, HA.out.below hq8 hlA, HB.out.below hq8 hlB, hbr.trans (hq8.mono hzr)⟩
        case measure => simp [intOf]
      · have HP : Hid (p = corN a b 2) := by show _ = _; rw [e1]; exact hp
        have HQ : Hid (q + 1 = comN a b 2) := by show _ = _; rw [e2, ← show q = comN a b 1 from hq]; simp
        clear e1 e2 hp hq
        go_wp2_with (go_at_call 85; refine (HCI.out _ (by repeat' (first | (with_reducible exact Below.refl _ _) | (with_reducible assumption) | (with_reducible refine Below.alloc ?_ ?_ _) | (with_reducible refine Below.drew ?_) | (with_reducible refine Below.setCell ?_ ?_ _) | (with_reducible refine Below.stepB (by assumption) ?_ ?_) | go_size))).mono ?_; rintro e w7 ⟨rfl, hbw7⟩; obtain ⟨hzw7, hcw7, hfw7⟩ := bfacts hbw7; (try simp at hzw7 hcw7 hfw7); (try (have : w.heap.size < w7.heap.size := by omega)); (try (have : w.heap.size + 1 < w7.heap.size := by omega)); (try (have : w.heap.size + 1 + 1 < w7.heap.size := by omega)); (try (have : w.heap.size + 1 + 1 + 1 < w7.heap.size := by omega)))
        have hq8 : Below wr.heap.size wr w7 := by repeat' (first | (with_reducible exact Below.refl _ _) | (with_reducible assumption) | (with_reducible refine Below.alloc ?_ ?_ _) | (with_reducible refine Below.drew ?_) | (with_reducible refine Below.setCell ?_ ?_ _) | (with_reducible refine Below.stepB (by assumption) ?_ ?_) | go_size)
        go_roundw
        case rel => exact ⟨2, p, q + 1, by omega, by go_num, rfl, by go_num, HP.out, HQ.out, by omega, HA.out.below hq8 hlA, HB.out.below hq8 hlB, hbr.trans (hq8.mono hzr)⟩
        case measure => simp [intOf]
    · have HCI := Lib.hid (fun W (hb : Below wr.heap.size wr W) => containsI_any (some ⟨w.heap.size, 0, none⟩) 3 3 a (b 2) W (slI_blk3 (HA.out.below hb HA.out.lt)) (by omega))
      rw [isCn_has] at HCI
      have e1 : corN a b 3 = if isCn a (b 2) = true then corN a b 2 else b 2 := rfl
      have e2 : comN a b 3 = comN a b 2 + if isCn a (b 2) = true then 1 else 0 := rfl
      generalize isCn a (b 2) = ci at HCI e1 e2
      cases ci
      · have HP : Hid (b 2 = corN a b 3) := by show _ = _; rw [e1]; rfl
        have HQ : Hid (q = comN a b 3) := by show _ = _; rw [e2, ← show q = comN a b 2 from hq]; simp
        clear e1 e2 hp hq
        go_wp2_with (go_at_call 85; refine (HCI.out _ (by repeat' (first | (with_reducible exact Below.refl _ _) | (with_reducible assumption) | (with_reducible refine Below.alloc ?_ ?_ _) | (with_reducible refine Below.drew ?_) | (with_reducible refine Below.setCell ?_ ?_ _) | (with_reducible refine Below.stepB (by assumption) ?_ ?_) | go_size))).mono ?_; rintro e w7 ⟨rfl, hbw7⟩; obtain ⟨hzw7, hcw7, hfw7⟩ := bfacts hbw7; (try simp at hzw7 hcw7 hfw7); (try (have : w.heap.size < w7.heap.size := by omega)); (try (have : w.heap.size + 1 < w7.heap.size := by omega)); (try (have : w.heap.size + 1 + 1 < w7.heap.size := by omega)); (try (have : w.heap.size + 1 + 1 + 1 < w7.heap.size := by omega)))
        have hq8 : Below wr.heap.size wr w7 := by repeat' (first | (with_reducible exact Below.refl _ _) | (with_reducible assumption) | (with_reducible refine Below.alloc ?_ ?_ _) | (with_reducible refine Below.drew ?_) | (with_reducible refine Below.setCell ?_ ?_ _) | (with_reducible refine Below.stepB (by assumption) ?_ ?_) | go_size)
        go_roundw
        case rel => exact ⟨3, _, _, by omega, by go_num, rfl, rfl, HP.out, HQ.out, by omega, HA.out.below hq8 hlA, HB.out.below hq8 hlB, hbr.trans (hq8.mono hzr)⟩
        case measure => simp [intOf]
      · have HP : Hid (p = corN a b 3) := by show _ = _; rw [e1]; exact hp
        have HQ : Hid (q + 1 = comN a b 3) := by show _ = _; rw [e2, ← show q = comN a b 2 from hq]; simp
        clear e1 e2 hp hq
        go_wp2_with (go_at_call 85; refine (HCI.out _ (by repeat' (first | (with_reducible exact Below.refl _ _) | (with_reducible assumption) | (with_reducible refine Below.alloc ?_ ?_ _) | (with_reducible refine Below.drew ?_) | (with_reducible refine Below.setCell ?_ ?_ _) | (with_reducible refine Below.stepB (by assumption) ?_ ?_) | go_size))).mono ?_; rintro e w7 ⟨rfl, hbw7⟩; obtain ⟨hzw7, hcw7, hfw7⟩ := bfacts hbw7; (try simp at hzw7 hcw7 hfw7); (try (have : w.heap.size < w7.heap.size := by omega)); (try (have : w.heap.size + 1 < w7.heap.size := by omega)); (try (have : w.heap.size + 1 + 1 < w7.heap.size := by omega)); (try (have : w.heap.size + 1 + 1 + 1 < w7.heap.size := by omega)))
        have hq8 : Below wr.heap.size wr w7 := by repeat' (first | (with_reducible exact Below.refl _ _) | (with_reducible assumption) | (with_reducible refine Below.alloc ?_ ?_ _) | (with_reducible refine Below.drew ?_) | (with_reducible refine Below.setCell ?_ ?_ _) | (with_reducible refine Below.stepB (by assumption) ?_ ?_) | go_size)
        go_roundw
        case rel => exact ⟨3, p, q + 1, by omega, by go_num, rfl, by go_num, HP.out, HQ.out, by omega, HA.out.below hq8 hlA, HB.out.below hq8 hlB, hbr.trans (hq8.mono hzr)⟩
        case measure => simp [intOf]
    · skip
      have HP : Hid (p = corN a b 3) := hp
      have HQ : Hid ((q == 2) = res) := by show _ = _; rw [HV.out, ← show q = comN a b 3 from hq]
      clear hp hq
      go_wp2
      go_ret2
      exact ⟨by rw [HP.out, HQ.out] <;> rfl, by repeat' (first | (with_reducible exact Below.refl _ _) | (with_reducible assumption) | (with_reducible refine Below.alloc ?_ ?_ _) | (with_reducible refine Below.drew ?_) | (with_reducible refine Below.setCell ?_ ?_ _) | (with_reducible refine Below.stepB (by assumption) ?_ ?_) | go_size)⟩
set_option maxHeartbeats 1000000 in
theorem l15Third_any (a b : Nat → Int) (w : World) : Calls Try.prog 93 #[.agg #[.int .i64 (a 0), .int .i64 (a 1), .int .i64 (a 2)], .agg #[.int .i64 (b 0), .int .i64 (b 1), .int .i64 (b 2)]] w
    fun e w' => e = .returned (.tuple #[.int .i64 (corN a b 3), .bool (nbB a b)]) ∧ Below w.heap.size w w' := by
  have hv : nbB a b = (comN a b 3 == 2) := rfl
  have HV := Lib.hid hv
  clear hv
  generalize nbB a b = res at HV ⊢
  go_enter Try.func93, Try.ntmps93
  go_wp2
  go_loopw [8, 6, 7] (fun vc v6 v7 wr => ∃ (k : Nat) (p q : Int), k ≤ 3 ∧ vc = .int .i64 k ∧ v6 = .int .i64 p ∧ v7 = .int .i64 q ∧ Hid (p = corN a b k) ∧ Hid (q = comN a b k) ∧ (0 ≤ q ∧ q ≤ k) ∧ Blk wr w.heap.size 41 #[.int .i64 (a 0), .int .i64 (a 1), .int .i64 (a 2)] ∧ Blk wr (w.heap.size + 1) 41 #[.int .i64 (b 0), .int .i64 (b 1), .int .i64 (b 2)] ∧ Below w.heap.size w wr) (fun vc _ _ _ => 3 - (intOf vc).toNat)
  case atStart => exact ⟨0, 0, 0, by omega, rfl, rfl, rfl, rfl, rfl, by omega, (blk_newP w _ _ rfl).alloc _, blk_newP _ _ _ (by simp), by repeat' (first | (with_reducible exact Below.refl _ _) | (with_reducible assumption) | (with_reducible refine Below.alloc ?_ ?_ _) | (with_reducible refine Below.drew ?_) | (with_reducible refine Below.setCell ?_ ?_ _) | (with_reducible refine Below.stepB (by assumption) ?_ ?_) | go_size)⟩
  case round =>
    obtain ⟨k, p, q, hk, rfl, rfl, rfl, hp, hq, hqk, hA, hB, hbr⟩ := hrel
    have hzr := hbr.size
    have hlA := hA.lt
    have hlB := hB.lt
    have HA := Lib.hid hA
    have HB := Lib.hid hB
    have a0 : wr.cell? ⟨w.heap.size, 0, none⟩ = some (.int .i64 (a 0)) := hA.cell 0
    have a1 : wr.cell? ⟨w.heap.size, 1, none⟩ = some (.int .i64 (a 1)) := hA.cell 1
    have a2 : wr.cell? ⟨w.heap.size, 2, none⟩ = some (.int .i64 (a 2)) := hA.cell 2
    have b0 : wr.cell? ⟨w.heap.size + 1, 0, none⟩ = some (.int .i64 (b 0)) := hB.cell 0
    have b1 : wr.cell? ⟨w.heap.size + 1, 1, none⟩ = some (.int .i64 (b 1)) := hB.cell 1
    have b2 : wr.cell? ⟨w.heap.size + 1, 2, none⟩ = some (.int .i64 (b 2)) := hB.cell 2
    clear hA hB
    obtain rfl | rfl | rfl | rfl : k = 0 ∨ k = 1 ∨ k = 2 ∨ k = 3 := by omega
    · skip
      have e1 : corN a b 1 = if isCn a (b 0) = true then corN a b 0 else b 0 := rfl
      have e2 : comN a b 1 = comN a b 0 + if isCn a (b 0) = true then 1 else 0 := rfl
      rcases Bool.eq_false_or_eq_true (b 0 == a 0) with h0 | h0
      · have HE : Hid (isCn a (b 0) = true) := by show _ = _; simp only [isCn, Bool.or_eq_true, decide_eq_true_eq]; have := beq_iff_eq.1 h0; omega
        have HP : Hid (p = corN a b 1) := by show _ = _; rw [e1, HE.out]; exact hp
        have HQ : Hid (q + 1 = comN a b 1) := by show _ = _; rw [e2, HE.out, ← show q = comN a b 0 from hq]; simp
        clear e1 e2 hp hq
        go_wp2
        refine wp_region_later (by kernel_rfl) (by kernel_rfl) (fun hlx => ?_)
        repeat (go_big_quiet_step (fail))
        refine wpQuiet_nil ?_
        clear hlx
        intro w3 hbw3
        obtain ⟨hzw3, hcw3, hfw3⟩ := bfacts hbw3; (try simp at hzw3 hcw3 hfw3); (try (have : w.heap.size < w3.heap.size := by omega)); (try (have : w.heap.size + 1 < w3.heap.size := by omega)); (try (have : w.heap.size + 1 + 1 < w3.heap.size := by omega)); (try (have : w.heap.size + 1 + 1 + 1 < w3.heap.size := by omega))
        go_wp2
        go_roundw
        case rel => exact ⟨1, p, q + 1, by omega, by go_num, rfl, by go_num, HP.out, HQ.out, by omega, HA.out.below hbw3 hlA, HB.out.below hbw3 hlB, by repeat' (first | (with_reducible exact Below.refl _ _) | (with_reducible assumption) | (with_reducible refine Below.alloc ?_ ?_ _) | (with_reducible refine Below.drew ?_) | (with_reducible refine Below.setCell ?_ ?_ _) | (with_reducible refine Below.stepB (by assumption) ?_ ?_) | go_size)⟩
        case measure => simp [intOf]
      rcases Bool.eq_false_or_eq_true (b 0 == a 1) with h1 | h1
      · have HE : Hid (isCn a (b 0) = true) := by show _ = _; simp only [isCn, Bool.or_eq_true, decide_eq_true_eq]; have := beq_iff_eq.1 h1; omega
        have HP : Hid (p = corN a b 1) := by show _ = _; rw [e1, HE.out]; exact hp
        have HQ : Hid (q + 1 = comN a b 1) := by show _ = _; rw [e2, HE.out, ← show q = comN a b 0 from hq]; simp
        clear e1 e2 hp hq
        go_wp2
        refine wp_region_later (by kernel_rfl) (by kernel_rfl) (fun hlx => ?_)
        repeat (go_big_quiet_step (fail))
        refine wpQuiet_nil ?_
        clear hlx
        intro w3 hbw3
        obtain ⟨hzw3, hcw3, hfw3⟩ := bfacts hbw3; (try simp at hzw3 hcw3 hfw3); (try (have : w.heap.size < w3.heap.size := by omega)); (try (have : w.heap.size + 1 < w3.heap.size := by omega)); (try (have : w.heap.size + 1 + 1 < w3.heap.size := by omega)); (try (have : w.heap.size + 1 + 1 + 1 < w3.heap.size := by omega))
        go_wp2
        go_roundw
        case rel => exact ⟨1, p, q + 1, by omega, by go_num, rfl, by go_num, HP.out, HQ.out, by omega, HA.out.below hbw3 hlA, HB.out.below hbw3 hlB, by repeat' (first | (with_reducible exact Below.refl _ _) | (with_reducible assumption) | (with_reducible refine Below.alloc ?_ ?_ _) | (with_reducible refine Below.drew ?_) | (with_reducible refine Below.setCell ?_ ?_ _) | (with_reducible refine Below.stepB (by assumption) ?_ ?_) | go_size)⟩
        case measure => simp [intOf]
      rcases Bool.eq_false_or_eq_true (b 0 == a 2) with h2 | h2
      · have HE : Hid (isCn a (b 0) = true) := by show _ = _; simp only [isCn, Bool.or_eq_true, decide_eq_true_eq]; have := beq_iff_eq.1 h2; omega
        have HP : Hid (p = corN a b 1) := by show _ = _; rw [e1, HE.out]; exact hp
        have HQ : Hid (q + 1 = comN a b 1) := by show _ = _; rw [e2, HE.out, ← show q = comN a b 0 from hq]; simp
        clear e1 e2 hp hq
        go_wp2
        refine wp_region_later (by kernel_rfl) (by kernel_rfl) (fun hlx => ?_)
        repeat (go_big_quiet_step (fail))
        refine wpQuiet_nil ?_
        clear hlx
        intro w3 hbw3
        obtain ⟨hzw3, hcw3, hfw3⟩ := bfacts hbw3; (try simp at hzw3 hcw3 hfw3); (try (have : w.heap.size < w3.heap.size := by omega)); (try (have : w.heap.size + 1 < w3.heap.size := by omega)); (try (have : w.heap.size + 1 + 1 < w3.heap.size := by omega)); (try (have : w.heap.size + 1 + 1 + 1 < w3.heap.size := by omega))
        go_wp2
        go_roundw
        case rel => exact ⟨1, p, q + 1, by omega, by go_num, rfl, by go_num, HP.out, HQ.out, by omega, HA.out.below hbw3 hlA, HB.out.below hbw3 hlB, by repeat' (first | (with_reducible exact Below.refl _ _) | (with_reducible assumption) | (with_reducible refine Below.alloc ?_ ?_ _) | (with_reducible refine Below.drew ?_) | (with_reducible refine Below.setCell ?_ ?_ _) | (with_reducible refine Below.stepB (by assumption) ?_ ?_) | go_size)⟩
        case measure => simp [intOf]
      · have HE : Hid (isCn a (b 0) = false) := by show _ = _; simp only [isCn, Bool.or_eq_false_iff, decide_eq_false_iff_not]; have h0 := beq_eq_false_iff_ne.1 h0; have h1 := beq_eq_false_iff_ne.1 h1; have h2 := beq_eq_false_iff_ne.1 h2; omega
        have HP : Hid (b 0 = corN a b 1) := by show _ = _; rw [e1, HE.out]; rfl
        have HQ : Hid (q = comN a b 1) := by show _ = _; rw [e2, HE.out, ← show q = comN a b 0 from hq]; simp
        clear e1 e2 hp hq
        go_wp2
        refine wp_region_later (by kernel_rfl) (by kernel_rfl) (fun hlx => ?_)
        repeat (go_big_quiet_step (fail))
        refine wpQuiet_nil ?_
        clear hlx
        intro w3 hbw3
        obtain ⟨hzw3, hcw3, hfw3⟩ := bfacts hbw3; (try simp at hzw3 hcw3 hfw3); (try (have : w.heap.size < w3.heap.size := by omega)); (try (have : w.heap.size + 1 < w3.heap.size := by omega)); (try (have : w.heap.size + 1 + 1 < w3.heap.size := by omega)); (try (have : w.heap.size + 1 + 1 + 1 < w3.heap.size := by omega))
        go_wp2
        go_roundw
        case rel => exact ⟨1, _, _, by omega, by go_num, rfl, rfl, HP.out, HQ.out, by omega, HA.out.below hbw3 hlA, HB.out.below hbw3 hlB, by repeat' (first | (with_reducible exact Below.refl _ _) | (with_reducible assumption) | (with_reducible refine Below.alloc ?_ ?_ _) | (with_reducible refine Below.drew ?_) | (with_reducible refine Below.setCell ?_ ?_ _) | (with_reducible refine Below.stepB (by assumption) ?_ ?_) | go_size)⟩
        case measure => simp [intOf]
    · skip
      have e1 : corN a b 2 = if isCn a (b 1) = true then corN a b 1 else b 1 := rfl
      have e2 : comN a b 2 = comN a b 1 + if isCn a (b 1) = true then 1 else 0 := rfl
      rcases Bool.eq_false_or_eq_true (b 1 == a 0) with h0 | h0
      · have HE : Hid (isCn a (b 1) = true) := by show _ = _; simp only [isCn, Bool.or_eq_true, decide_eq_true_eq]; have := beq_iff_eq.1 h0; omega
        have HP : Hid (p = corN a b 2) := by show _ = _; rw [e1, HE.out]; exact hp
        have HQ : Hid (q + 1 = comN a b 2) := by show _ = _; rw [e2, HE.out, ← show q = comN a b 1 from hq]; simp
        clear e1 e2 hp hq
        go_wp2
        refine wp_region_later (by kernel_rfl) (by kernel_rfl) (fun hlx => ?_)
        repeat (go_big_quiet_step (fail))
        refine wpQuiet_nil ?_
        clear hlx
        intro w3 hbw3
        obtain ⟨hzw3, hcw3, hfw3⟩ := bfacts hbw3; (try simp at hzw3 hcw3 hfw3); (try (have : w.heap.size < w3.heap.size := by omega)); (try (have : w.heap.size + 1 < w3.heap.size := by omega)); (try (have : w.heap.size + 1 + 1 < w3.heap.size := by omega)); (try (have : w.heap.size + 1 + 1 + 1 < w3.heap.size := by omega))
        go_wp2
        go_roundw
        case rel => exact ⟨2, p, q + 1, by omega, by go_num, rfl, by go_num, HP.out, HQ.out, by omega, HA.out.below hbw3 hlA, HB.out.below hbw3 hlB, by repeat' (first | (with_reducible exact Below.refl _ _) | (with_reducible assumption) | (with_reducible refine Below.alloc ?_ ?_ _) | (with_reducible refine Below.drew ?_) | (with_reducible refine Below.setCell ?_ ?_ _) | (with_reducible refine Below.stepB (by assumption) ?_ ?_) | go_size)⟩
        case measure => simp [intOf]
      rcases Bool.eq_false_or_eq_true (b 1 == a 1) with h1 | h1
      · have HE : Hid (isCn a (b 1) = true) := by show _ = _; simp only [isCn, Bool.or_eq_true, decide_eq_true_eq]; have := beq_iff_eq.1 h1; omega
        have HP : Hid (p = corN a b 2) := by show _ = _; rw [e1, HE.out]; exact hp
        have HQ : Hid (q + 1 = comN a b 2) := by show _ = _; rw [e2, HE.out, ← show q = comN a b 1 from hq]; simp
        clear e1 e2 hp hq
        go_wp2
        refine wp_region_later (by kernel_rfl) (by kernel_rfl) (fun hlx => ?_)
        repeat (go_big_quiet_step (fail))
        refine wpQuiet_nil ?_
        clear hlx
        intro w3 hbw3
        obtain ⟨hzw3, hcw3, hfw3⟩ := bfacts hbw3; (try simp at hzw3 hcw3 hfw3); (try (have : w.heap.size < w3.heap.size := by omega)); (try (have : w.heap.size + 1 < w3.heap.size := by omega)); (try (have : w.heap.size + 1 + 1 < w3.heap.size := by omega)); (try (have : w.heap.size + 1 + 1 + 1 < w3.heap.size := by omega))
        go_wp2
        go_roundw
        case rel => exact ⟨2, p, q + 1, by omega, by go_num, rfl, by go_num, HP.out, HQ.out, by omega, HA.out.below hbw3 hlA, HB.out.below hbw3 hlB, by repeat' (first | (with_reducible exact Below.refl _ _) | (with_reducible assumption) | (with_reducible refine Below.alloc ?_ ?_ _) | (with_reducible refine Below.drew ?_) | (with_reducible refine Below.setCell ?_ ?_ _) | (with_reducible refine Below.stepB (by assumption) ?_ ?_) | go_size)⟩
        case measure => simp [intOf]
      rcases Bool.eq_false_or_eq_true (b 1 == a 2) with h2 | h2
      · have HE : Hid (isCn a (b 1) = true) := by show _ = _; simp only [isCn, Bool.or_eq_true, decide_eq_true_eq]; have := beq_iff_eq.1 h2; omega
        have HP : Hid (p = corN a b 2) := by show _ = _; rw [e1, HE.out]; exact hp
        have HQ : Hid (q + 1 = comN a b 2) := by show _ = _; rw [e2, HE.out, ← show q = comN a b 1 from hq]; simp
        clear e1 e2 hp hq
        go_wp2
        refine wp_region_later (by kernel_rfl) (by kernel_rfl) (fun hlx => ?_)
        repeat (go_big_quiet_step (fail))
        refine wpQuiet_nil ?_
        clear hlx
        intro w3 hbw3
        obtain ⟨hzw3, hcw3, hfw3⟩ := bfacts hbw3; (try simp at hzw3 hcw3 hfw3); (try (have : w.heap.size < w3.heap.size := by omega)); (try (have : w.heap.size + 1 < w3.heap.size := by omega)); (try (have : w.heap.size + 1 + 1 < w3.heap.size := by omega)); (try (have : w.heap.size + 1 + 1 + 1 < w3.heap.size := by omega))
        go_wp2
        go_roundw
        case rel => exact ⟨2, p, q + 1, by omega, by go_num, rfl, by go_num, HP.out, HQ.out, by omega, HA.out.below hbw3 hlA, HB.out.below hbw3 hlB, by repeat' (first | (with_reducible exact Below.refl _ _) | (with_reducible assumption) | (with_reducible refine Below.alloc ?_ ?_ _) | (with_reducible refine Below.drew ?_) | (with_reducible refine Below.setCell ?_ ?_ _) | (with_reducible refine Below.stepB (by assumption) ?_ ?_) | go_size)⟩
        case measure => simp [intOf]
      · have HE : Hid (isCn a (b 1) = false) := by show _ = _; simp only [isCn, Bool.or_eq_false_iff, decide_eq_false_iff_not]; have h0 := beq_eq_false_iff_ne.1 h0; have h1 := beq_eq_false_iff_ne.1 h1; have h2 := beq_eq_false_iff_ne.1 h2; omega
        have HP : Hid (b 1 = corN a b 2) := by show _ = _; rw [e1, HE.out]; rfl
        have HQ : Hid (q = comN a b 2) := by show _ = _; rw [e2, HE.out, ← show q = comN a b 1 from hq]; simp
        clear e1 e2 hp hq
        go_wp2
        refine wp_region_later (by kernel_rfl) (by kernel_rfl) (fun hlx => ?_)
        repeat (go_big_quiet_step (fail))
        refine wpQuiet_nil ?_
        clear hlx
        intro w3 hbw3
        obtain ⟨hzw3, hcw3, hfw3⟩ := bfacts hbw3; (try simp at hzw3 hcw3 hfw3); (try (have : w.heap.size < w3.heap.size := by omega)); (try (have : w.heap.size + 1 < w3.heap.size := by omega)); (try (have : w.heap.size + 1 + 1 < w3.heap.size := by omega)); (try (have : w.heap.size + 1 + 1 + 1 < w3.heap.size := by omega))
        go_wp2
        go_roundw
        case rel => exact ⟨2, _, _, by omega, by go_num, rfl, rfl, HP.out, HQ.out, by omega, HA.out.below hbw3 hlA, HB.out.below hbw3 hlB, by repeat' (first | (with_reducible exact Below.refl _ _) | (with_reducible assumption) | (with_reducible refine Below.alloc ?_ ?_ _) | (with_reducible refine Below.drew ?_) | (with_reducible refine Below.setCell ?_ ?_ _) | (with_reducible refine Below.stepB (by assumption) ?_ ?_) | go_size)⟩
        case measure => simp [intOf]
    · skip
      have e1 : corN a b 3 = if isCn a (b 2) = true then corN a b 2 else b 2 := rfl
      have e2 : comN a b 3 = comN a b 2 + if isCn a (b 2) = true then 1 else 0 := rfl
      rcases Bool.eq_false_or_eq_true (b 2 == a 0) with h0 | h0
      · have HE : Hid (isCn a (b 2) = true) := by show _ = _; simp only [isCn, Bool.or_eq_true, decide_eq_true_eq]; have := beq_iff_eq.1 h0; omega
        have HP : Hid (p = corN a b 3) := by show _ = _; rw [e1, HE.out]; exact hp
        have HQ : Hid (q + 1 = comN a b 3) := by show _ = _; rw [e2, HE.out, ← show q = comN a b 2 from hq]; simp
        clear e1 e2 hp hq
        go_wp2
        refine wp_region_later (by kernel_rfl) (by kernel_rfl) (fun hlx => ?_)
        repeat (go_big_quiet_step (fail))
        refine wpQuiet_nil ?_
        clear hlx
        intro w3 hbw3
        obtain ⟨hzw3, hcw3, hfw3⟩ := bfacts hbw3; (try simp at hzw3 hcw3 hfw3); (try (have : w.heap.size < w3.heap.size := by omega)); (try (have : w.heap.size + 1 < w3.heap.size := by omega)); (try (have : w.heap.size + 1 + 1 < w3.heap.size := by omega)); (try (have : w.heap.size + 1 + 1 + 1 < w3.heap.size := by omega))
        go_wp2
        go_roundw
        case rel => exact ⟨3, p, q + 1, by omega, by go_num, rfl, by go_num, HP.out, HQ.out, by omega, HA.out.below hbw3 hlA, HB.out.below hbw3 hlB, by repeat' (first | (with_reducible exact Below.refl _ _) | (with_reducible assumption) | (with_reducible refine Below.alloc ?_ ?_ _) | (with_reducible refine Below.drew ?_) | (with_reducible refine Below.setCell ?_ ?_ _) | (with_reducible refine Below.stepB (by assumption) ?_ ?_) | go_size)⟩
        case measure => simp [intOf]
      rcases Bool.eq_false_or_eq_true (b 2 == a 1) with h1 | h1
      · have HE : Hid (isCn a (b 2) = true) := by show _ = _; simp only [isCn, Bool.or_eq_true, decide_eq_true_eq]; have := beq_iff_eq.1 h1; omega
        have HP : Hid (p = corN a b 3) := by show _ = _; rw [e1, HE.out]; exact hp
        have HQ : Hid (q + 1 = comN a b 3) := by show _ = _; rw [e2, HE.out, ← show q = comN a b 2 from hq]; simp
        clear e1 e2 hp hq
        go_wp2
        refine wp_region_later (by kernel_rfl) (by kernel_rfl) (fun hlx => ?_)
        repeat (go_big_quiet_step (fail))
        refine wpQuiet_nil ?_
        clear hlx
        intro w3 hbw3
        obtain ⟨hzw3, hcw3, hfw3⟩ := bfacts hbw3; (try simp at hzw3 hcw3 hfw3); (try (have : w.heap.size < w3.heap.size := by omega)); (try (have : w.heap.size + 1 < w3.heap.size := by omega)); (try (have : w.heap.size + 1 + 1 < w3.heap.size := by omega)); (try (have : w.heap.size + 1 + 1 + 1 < w3.heap.size := by omega))
        go_wp2
        go_roundw
        case rel => exact ⟨3, p, q + 1, by omega, by go_num, rfl, by go_num, HP.out, HQ.out, by omega, HA.out.below hbw3 hlA, HB.out.below hbw3 hlB, by repeat' (first | (with_reducible exact Below.refl _ _) | (with_reducible assumption) | (with_reducible refine Below.alloc ?_ ?_ _) | (with_reducible refine Below.drew ?_) | (with_reducible refine Below.setCell ?_ ?_ _) | (with_reducible refine Below.stepB (by assumption) ?_ ?_) | go_size)⟩
        case measure => simp [intOf]
      rcases Bool.eq_false_or_eq_true (b 2 == a 2) with h2 | h2
      · have HE : Hid (isCn a (b 2) = true) := by show _ = _; simp only [isCn, Bool.or_eq_true, decide_eq_true_eq]; have := beq_iff_eq.1 h2; omega
        have HP : Hid (p = corN a b 3) := by show _ = _; rw [e1, HE.out]; exact hp
        have HQ : Hid (q + 1 = comN a b 3) := by show _ = _; rw [e2, HE.out, ← show q = comN a b 2 from hq]; simp
        clear e1 e2 hp hq
        go_wp2
        refine wp_region_later (by kernel_rfl) (by kernel_rfl) (fun hlx => ?_)
        repeat (go_big_quiet_step (fail))
        refine wpQuiet_nil ?_
        clear hlx
        intro w3 hbw3
        obtain ⟨hzw3, hcw3, hfw3⟩ := bfacts hbw3; (try simp at hzw3 hcw3 hfw3); (try (have : w.heap.size < w3.heap.size := by omega)); (try (have : w.heap.size + 1 < w3.heap.size := by omega)); (try (have : w.heap.size + 1 + 1 < w3.heap.size := by omega)); (try (have : w.heap.size + 1 + 1 + 1 < w3.heap.size := by omega))
        go_wp2
        go_roundw
        case rel => exact ⟨3, p, q + 1, by omega, by go_num, rfl, by go_num, HP.out, HQ.out, by omega, HA.out.below hbw3 hlA, HB.out.below hbw3 hlB, by repeat' (first | (with_reducible exact Below.refl _ _) | (with_reducible assumption) | (with_reducible refine Below.alloc ?_ ?_ _) | (with_reducible refine Below.drew ?_) | (with_reducible refine Below.setCell ?_ ?_ _) | (with_reducible refine Below.stepB (by assumption) ?_ ?_) | go_size)⟩
        case measure => simp [intOf]
      · have HE : Hid (isCn a (b 2) = false) := by show _ = _; simp only [isCn, Bool.or_eq_false_iff, decide_eq_false_iff_not]; have h0 := beq_eq_false_iff_ne.1 h0; have h1 := beq_eq_false_iff_ne.1 h1; have h2 := beq_eq_false_iff_ne.1 h2; omega
        have HP : Hid (b 2 = corN a b 3) := by show _ = _; rw [e1, HE.out]; rfl
        have HQ : Hid (q = comN a b 3) := by show _ = _; rw [e2, HE.out, ← show q = comN a b 2 from hq]; simp
        clear e1 e2 hp hq
        go_wp2
        refine wp_region_later (by kernel_rfl) (by kernel_rfl) (fun hlx => ?_)
        repeat (go_big_quiet_step (fail))
        refine wpQuiet_nil ?_
        clear hlx
        intro w3 hbw3
        obtain ⟨hzw3, hcw3, hfw3⟩ := bfacts hbw3; (try simp at hzw3 hcw3 hfw3); (try (have : w.heap.size < w3.heap.size := by omega)); (try (have : w.heap.size + 1 < w3.heap.size := by omega)); (try (have : w.heap.size + 1 + 1 < w3.heap.size := by omega)); (try (have : w.heap.size + 1 + 1 + 1 < w3.heap.size := by omega))
        go_wp2
        go_roundw
        case rel => exact ⟨3, _, _, by omega, by go_num, rfl, rfl, HP.out, HQ.out, by omega, HA.out.below hbw3 hlA, HB.out.below hbw3 hlB, by repeat' (first | (with_reducible exact Below.refl _ _) | (with_reducible assumption) | (with_reducible refine Below.alloc ?_ ?_ _) | (with_reducible refine Below.drew ?_) | (with_reducible refine Below.setCell ?_ ?_ _) | (with_reducible refine Below.stepB (by assumption) ?_ ?_) | go_size)⟩
        case measure => simp [intOf]
    · skip
      have HP : Hid (p = corN a b 3) := hp
      have HQ : Hid ((q == 2) = res) := by show _ = _; rw [HV.out, ← show q = comN a b 3 from hq]
      clear hp hq
      go_wp2
      go_ret2
      exact ⟨by rw [HP.out, HQ.out] <;> rfl, by repeat' (first | (with_reducible exact Below.refl _ _) | (with_reducible assumption) | (with_reducible refine Below.alloc ?_ ?_ _) | (with_reducible refine Below.drew ?_) | (with_reducible refine Below.setCell ?_ ?_ _) | (with_reducible refine Below.stepB (by assumption) ?_ ?_) | go_size)⟩
end Go.Proofs.Ytfflbkmncnaffaa
