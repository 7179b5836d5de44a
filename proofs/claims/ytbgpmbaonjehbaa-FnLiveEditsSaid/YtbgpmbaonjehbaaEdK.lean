/- Contracts: the reference's functions on an edit list that answer for each sounding: accepted, shifted, rejected, live. -/
import Derived.Test.YtbgpmbaonjehbaaEdH
namespace Go.Proofs.Ytbgpmbaonjehbaa
open Go.RowKit
set_option maxRecDepth 100000 in
set_option maxHeartbeats 1000000 in
theorem specAccepted_any (marks : Int) (b off n c : Nat) (f : Nat → ES) (w : World) (hS : SlES w (some ⟨b, off, none⟩) n f) (hnc : n ≤ c) (hn : n ≤ 1000) : Calls Try.prog 19 #[.int .i64 marks, .slice (some ⟨b, off, none⟩) n c] w
    fun e w' => VOut w (cntN (goodEd marks f n) marks.toNat) (fun i => .bool (accV f (liveN f n) i)) (goodEd marks f n) e w' := by
  have hgd := fun W (hb : Below w.heap.size w W) => l14Good_any marks b off n c f W (hS.below hb) hnc hn
  have HS := Lib.hid hS
  rcases Bool.eq_false_or_eq_true (goodEd marks f n) with hg | hg <;> rw [hg] at hgd <;> have HGD := Lib.hid hgd <;> have HG := Lib.hid hg <;> clear hS hgd
  rotate_left
  · clear hg
    go_enter Try.func19, Try.ntmps19
    go_wp2_with (go_at_call 36; refine (HGD.out _ (by repeat' (first | (with_reducible exact Below.refl _ _) | (with_reducible assumption) | (with_reducible refine Below.alloc ?_ ?_ _) | (with_reducible refine Below.drew ?_) | (with_reducible refine Below.setCell ?_ ?_ _) | (with_reducible refine Below.stepB (by assumption) ?_ ?_) | go_size))).mono ?_; rintro e w1 ⟨rfl, hbw1⟩; obtain ⟨hzw1, hcw1, hfw1⟩ := bfacts hbw1; (try simp at hzw1 hcw1 hfw1); (try (have : w.heap.size < w1.heap.size := by omega)); (try (have : w.heap.size + 1 < w1.heap.size := by omega)); (try (have : w.heap.size + 1 + 1 < w1.heap.size := by omega)); (try (have : w.heap.size + 1 + 1 + 1 < w1.heap.size := by omega)))
    go_ret2
    exact VOut.none (cntN_f HG.out) HG.out (by repeat' (first | (with_reducible exact Below.refl _ _) | (with_reducible assumption) | (with_reducible refine Below.alloc ?_ ?_ _) | (with_reducible refine Below.drew ?_) | (with_reducible refine Below.setCell ?_ ?_ _) | (with_reducible refine Below.stepB (by assumption) ?_ ?_) | go_size))
  obtain ⟨⟨hM1, hM15⟩, hn20, -⟩ := goodEd_bd hg
  obtain ⟨M, rfl⟩ : ∃ M : Nat, marks = M := ⟨marks.toNat, by omega⟩
  clear hg
  have HAC := Lib.hid (fun (i : Nat) W (hb : Below w.heap.size w W) => l14Accepted_any (some ⟨b, off, none⟩) n c f i W (HS.out.below hb) hn20)
  obtain ⟨q0, hq0, hy0, hy1, hy2⟩ := info_parts bool_info
  have hO0 := Lib.hid (ownsRow_empty w 4 1)
  go_enter Try.func19, Try.ntmps19
  go_wp2_with (go_at_call 36; refine (HGD.out _ (by repeat' (first | (with_reducible exact Below.refl _ _) | (with_reducible assumption) | (with_reducible refine Below.alloc ?_ ?_ _) | (with_reducible refine Below.drew ?_) | (with_reducible refine Below.setCell ?_ ?_ _) | (with_reducible refine Below.stepB (by assumption) ?_ ?_) | go_size))).mono ?_; rintro e w1 ⟨rfl, hbw1⟩; obtain ⟨hzw1, hcw1, hfw1⟩ := bfacts hbw1; (try simp at hzw1 hcw1 hfw1); (try (have : w.heap.size < w1.heap.size := by omega)); (try (have : w.heap.size + 1 < w1.heap.size := by omega)); (try (have : w.heap.size + 1 + 1 < w1.heap.size := by omega)); (try (have : w.heap.size + 1 + 1 + 1 < w1.heap.size := by omega)))
  go_loopw [6, 7] (fun v6 v7 wr => ∃ i b3 c3 : Nat, i ≤ M ∧ v7 = .int .i64 i ∧ v6 = .slice (some ⟨b3, 0, none⟩) i c3 ∧ Hid (wr.ownsRow w.heap.size 4 1 (.slice (some ⟨b3, 0, none⟩) i c3) i (rangeX (fun i => .bool (accV f (liveN f n) i)) i)) ∧ Below w.heap.size w wr) (fun _ v7 _ => M - (intOf v7).toNat)
  case atStart => exact ⟨0, _, _, Nat.zero_le _, rfl, rfl, ownsRow_below hO0.out (by repeat' (first | (with_reducible exact Below.refl _ _) | (with_reducible assumption) | (with_reducible refine Below.alloc ?_ ?_ _) | (with_reducible refine Below.drew ?_) | (with_reducible refine Below.setCell ?_ ?_ _) | (with_reducible refine Below.stepB (by assumption) ?_ ?_) | go_size)), by repeat' (first | (with_reducible exact Below.refl _ _) | (with_reducible assumption) | (with_reducible refine Below.alloc ?_ ?_ _) | (with_reducible refine Below.drew ?_) | (with_reducible refine Below.setCell ?_ ?_ _) | (with_reducible refine Below.stepB (by assumption) ?_ ?_) | go_size)⟩
  case round =>
    clear hO0
    obtain ⟨i, b3, c3, hi, rfl, rfl, hO, hbr⟩ := hrel
    have hzr := hbr.size
    by_cases hlt : i < M
    · have HX := Lib.hid (rangeX_snoc (fun i => .bool (accV f (liveN f n) i)) i)
      have HA := Lib.hid (fun W hb => HAC.out i W hb)
      generalize accV f (liveN f n) i = a at HA HX
      go_wp2_with (first | (go_at_call 40; refine (HA.out _ (by repeat' (first | (with_reducible exact Below.refl _ _) | (with_reducible assumption) | (with_reducible refine Below.alloc ?_ ?_ _) | (with_reducible refine Below.drew ?_) | (with_reducible refine Below.setCell ?_ ?_ _) | (with_reducible refine Below.stepB (by assumption) ?_ ?_) | go_size))).mono ?_; rintro e w5 ⟨rfl, hbw5⟩; obtain ⟨hzw5, hcw5, hfw5⟩ := bfacts hbw5; (try simp at hzw5 hcw5 hfw5); (try (have : w.heap.size < w5.heap.size := by omega)); (try (have : w.heap.size + 1 < w5.heap.size := by omega)); (try (have : w.heap.size + 1 + 1 < w5.heap.size := by omega)); (try (have : w.heap.size + 1 + 1 + 1 < w5.heap.size := by omega)); have HO5 := Lib.hid (ownsRow_below hO.out hbw5)) | (at_builtin; refine wpList_append_rowS _ rfl _ _ 32 rfl w.heap.size 4 q0 _ 1 1 Try.underlying32 hq0 hy0 hy1 hy2 rfl (by decide) (.slice (some ⟨b3, 0, none⟩) i c3) i ((rangeX (fun i => .bool (accV f (liveN f n) i)) i)) rfl ((ownsRow_below HO5.out (show Below w5.heap.size w5 _ from by repeat' (first | (with_reducible exact Below.refl _ _) | (with_reducible assumption) | (with_reducible refine Below.alloc ?_ ?_ _) | (with_reducible refine Below.drew ?_) | (with_reducible refine Below.setCell ?_ ?_ _) | (with_reducible refine Below.stepB (by assumption) ?_ ?_) | go_size)))) (by simp) _ 0 1 1 (fun _ _ => .bool a) rfl ?_ (fun _ _ => rfl) (by omega) (by decide) ?_ ?_; go_must (focus exact one_box (blk_new1 _ rfl)); go_must (focus (first | omega | (simp; omega) | (simp; done))); intro b9 c9 w9 hO9 hc9 hb9 hbw9; have hz9 := hbw9.size; (try simp at hz9)))
      go_roundw
      case rel => exact ⟨i + 1, b9, c9, by omega, by go_num, rfl, by show World.ownsRow _ _ _ _ _ _ _; rw [← HX.out]; exact hO9, by repeat' (first | (with_reducible exact Below.refl _ _) | (with_reducible assumption) | (with_reducible refine Below.alloc ?_ ?_ _) | (with_reducible refine Below.drew ?_) | (with_reducible refine Below.setCell ?_ ?_ _) | (with_reducible refine Below.stepB (by assumption) ?_ ?_) | go_size)⟩
      case measure => simp [intOf]; omega
    · obtain rfl : i = M := by omega
      go_wp2
      go_ret2
      exact VOut.row (own_range hO.out) (by rw [cntN_t HG.out, Int.toNat_natCast]) HG.out (by repeat' (first | (with_reducible exact Below.refl _ _) | (with_reducible assumption) | (with_reducible refine Below.alloc ?_ ?_ _) | (with_reducible refine Below.drew ?_) | (with_reducible refine Below.setCell ?_ ?_ _) | (with_reducible refine Below.stepB (by assumption) ?_ ?_) | go_size))
set_option maxRecDepth 100000 in
set_option maxHeartbeats 1000000 in
theorem specShifts_any (marks : Int) (b off n c : Nat) (f : Nat → ES) (w : World) (hS : SlES w (some ⟨b, off, none⟩) n f) (hnc : n ≤ c) (hn : n ≤ 1000) : Calls Try.prog 21 #[.int .i64 marks, .slice (some ⟨b, off, none⟩) n c] w
    fun e w' => VOut w (cntN (goodEd marks f n) marks.toNat) (fun i => .int .i64 (shiftV f (liveN f n) i)) (goodEd marks f n) e w' := by
  have hgd := fun W (hb : Below w.heap.size w W) => l14Good_any marks b off n c f W (hS.below hb) hnc hn
  have HS := Lib.hid hS
  rcases Bool.eq_false_or_eq_true (goodEd marks f n) with hg | hg <;> rw [hg] at hgd <;> have HGD := Lib.hid hgd <;> have HG := Lib.hid hg <;> clear hS hgd
  rotate_left
  · clear hg
    go_enter Try.func21, Try.ntmps21
    go_wp2_with (go_at_call 36; refine (HGD.out _ (by repeat' (first | (with_reducible exact Below.refl _ _) | (with_reducible assumption) | (with_reducible refine Below.alloc ?_ ?_ _) | (with_reducible refine Below.drew ?_) | (with_reducible refine Below.setCell ?_ ?_ _) | (with_reducible refine Below.stepB (by assumption) ?_ ?_) | go_size))).mono ?_; rintro e w1 ⟨rfl, hbw1⟩; obtain ⟨hzw1, hcw1, hfw1⟩ := bfacts hbw1; (try simp at hzw1 hcw1 hfw1); (try (have : w.heap.size < w1.heap.size := by omega)); (try (have : w.heap.size + 1 < w1.heap.size := by omega)); (try (have : w.heap.size + 1 + 1 < w1.heap.size := by omega)); (try (have : w.heap.size + 1 + 1 + 1 < w1.heap.size := by omega)))
    go_ret2
    exact VOut.none (cntN_f HG.out) HG.out (by repeat' (first | (with_reducible exact Below.refl _ _) | (with_reducible assumption) | (with_reducible refine Below.alloc ?_ ?_ _) | (with_reducible refine Below.drew ?_) | (with_reducible refine Below.setCell ?_ ?_ _) | (with_reducible refine Below.stepB (by assumption) ?_ ?_) | go_size))
  obtain ⟨⟨hM1, hM15⟩, hn20, -⟩ := goodEd_bd hg
  obtain ⟨M, rfl⟩ : ∃ M : Nat, marks = M := ⟨marks.toNat, by omega⟩
  clear hg
  have HAC := Lib.hid (fun (i : Nat) W (hb : Below w.heap.size w W) => l14Shift_any (some ⟨b, off, none⟩) n c f i W (HS.out.below hb) hn20 (fun i hi => (form_kind (goodE_form (goodEd_bd HG.out).2.2 hi)).2.2.1))
  obtain ⟨q0, hq0, hy0, hy1, hy2⟩ := info_parts nat_info
  have hO0 := Lib.hid (ownsRow_empty w 3 1)
  go_enter Try.func21, Try.ntmps21
  go_wp2_with (go_at_call 36; refine (HGD.out _ (by repeat' (first | (with_reducible exact Below.refl _ _) | (with_reducible assumption) | (with_reducible refine Below.alloc ?_ ?_ _) | (with_reducible refine Below.drew ?_) | (with_reducible refine Below.setCell ?_ ?_ _) | (with_reducible refine Below.stepB (by assumption) ?_ ?_) | go_size))).mono ?_; rintro e w1 ⟨rfl, hbw1⟩; obtain ⟨hzw1, hcw1, hfw1⟩ := bfacts hbw1; (try simp at hzw1 hcw1 hfw1); (try (have : w.heap.size < w1.heap.size := by omega)); (try (have : w.heap.size + 1 < w1.heap.size := by omega)); (try (have : w.heap.size + 1 + 1 < w1.heap.size := by omega)); (try (have : w.heap.size + 1 + 1 + 1 < w1.heap.size := by omega)))
  go_loopw [6, 7] (fun v6 v7 wr => ∃ i b3 c3 : Nat, i ≤ M ∧ v7 = .int .i64 i ∧ v6 = .slice (some ⟨b3, 0, none⟩) i c3 ∧ Hid (wr.ownsRow w.heap.size 3 1 (.slice (some ⟨b3, 0, none⟩) i c3) i (rangeX (fun i => .int .i64 (shiftV f (liveN f n) i)) i)) ∧ Below w.heap.size w wr) (fun _ v7 _ => M - (intOf v7).toNat)
  case atStart => exact ⟨0, _, _, Nat.zero_le _, rfl, rfl, ownsRow_below hO0.out (by repeat' (first | (with_reducible exact Below.refl _ _) | (with_reducible assumption) | (with_reducible refine Below.alloc ?_ ?_ _) | (with_reducible refine Below.drew ?_) | (with_reducible refine Below.setCell ?_ ?_ _) | (with_reducible refine Below.stepB (by assumption) ?_ ?_) | go_size)), by repeat' (first | (with_reducible exact Below.refl _ _) | (with_reducible assumption) | (with_reducible refine Below.alloc ?_ ?_ _) | (with_reducible refine Below.drew ?_) | (with_reducible refine Below.setCell ?_ ?_ _) | (with_reducible refine Below.stepB (by assumption) ?_ ?_) | go_size)⟩
  case round =>
    clear hO0
    obtain ⟨i, b3, c3, hi, rfl, rfl, hO, hbr⟩ := hrel
    have hzr := hbr.size
    by_cases hlt : i < M
    · have HX := Lib.hid (rangeX_snoc (fun i => .int .i64 (shiftV f (liveN f n) i)) i)
      have HA := Lib.hid (fun W hb => HAC.out i W hb)
      generalize shiftV f (liveN f n) i = a at HA HX
      go_wp2_with (first | (go_at_call 41; refine (HA.out _ (by repeat' (first | (with_reducible exact Below.refl _ _) | (with_reducible assumption) | (with_reducible refine Below.alloc ?_ ?_ _) | (with_reducible refine Below.drew ?_) | (with_reducible refine Below.setCell ?_ ?_ _) | (with_reducible refine Below.stepB (by assumption) ?_ ?_) | go_size))).mono ?_; rintro e w5 ⟨rfl, hbw5⟩; obtain ⟨hzw5, hcw5, hfw5⟩ := bfacts hbw5; (try simp at hzw5 hcw5 hfw5); (try (have : w.heap.size < w5.heap.size := by omega)); (try (have : w.heap.size + 1 < w5.heap.size := by omega)); (try (have : w.heap.size + 1 + 1 < w5.heap.size := by omega)); (try (have : w.heap.size + 1 + 1 + 1 < w5.heap.size := by omega)); have HO5 := Lib.hid (ownsRow_below hO.out hbw5)) | (at_builtin; refine wpList_append_rowS _ rfl _ _ 35 rfl w.heap.size 3 q0 _ 1 8 Try.underlying35 hq0 hy0 hy1 hy2 rfl (by decide) (.slice (some ⟨b3, 0, none⟩) i c3) i ((rangeX (fun i => .int .i64 (shiftV f (liveN f n) i)) i)) rfl ((ownsRow_below HO5.out (show Below w5.heap.size w5 _ from by repeat' (first | (with_reducible exact Below.refl _ _) | (with_reducible assumption) | (with_reducible refine Below.alloc ?_ ?_ _) | (with_reducible refine Below.drew ?_) | (with_reducible refine Below.setCell ?_ ?_ _) | (with_reducible refine Below.stepB (by assumption) ?_ ?_) | go_size)))) (by simp) _ 0 1 1 (fun _ _ => .int .i64 a) rfl ?_ (fun _ _ => rfl) (by omega) (by decide) ?_ ?_; go_must (focus exact one_box (blk_new1 _ rfl)); go_must (focus (first | omega | (simp; omega) | (simp; done))); intro b9 c9 w9 hO9 hc9 hb9 hbw9; have hz9 := hbw9.size; (try simp at hz9)))
      go_roundw
      case rel => exact ⟨i + 1, b9, c9, by omega, by go_num, rfl, by show World.ownsRow _ _ _ _ _ _ _; rw [← HX.out]; exact hO9, by repeat' (first | (with_reducible exact Below.refl _ _) | (with_reducible assumption) | (with_reducible refine Below.alloc ?_ ?_ _) | (with_reducible refine Below.drew ?_) | (with_reducible refine Below.setCell ?_ ?_ _) | (with_reducible refine Below.stepB (by assumption) ?_ ?_) | go_size)⟩
      case measure => simp [intOf]; omega
    · obtain rfl : i = M := by omega
      go_wp2
      go_ret2
      exact VOut.row (own_range hO.out) (by rw [cntN_t HG.out, Int.toNat_natCast]) HG.out (by repeat' (first | (with_reducible exact Below.refl _ _) | (with_reducible assumption) | (with_reducible refine Below.alloc ?_ ?_ _) | (with_reducible refine Below.drew ?_) | (with_reducible refine Below.setCell ?_ ?_ _) | (with_reducible refine Below.stepB (by assumption) ?_ ?_) | go_size))
theorem specLive_any (marks : Int) (b off n c : Nat) (f : Nat → ES) (w : World) (hS : SlES w (some ⟨b, off, none⟩) n f) (hnc : n ≤ c) (hn : n ≤ 1000) : Calls Try.prog 24 #[.int .i64 marks, .slice (some ⟨b, off, none⟩) n c] w
    fun e w' => VOut w (cntN (goodEd marks f n) (liveN f n).length) (fun i => .int .i64 (natV (liveN f n) i)) (goodEd marks f n) e w' := by
  have hgd := fun W (hb : Below w.heap.size w W) => l14Good_any marks b off n c f W (hS.below hb) hnc hn
  have HS := Lib.hid hS
  rcases Bool.eq_false_or_eq_true (goodEd marks f n) with hg | hg <;> rw [hg] at hgd <;> have HGD := Lib.hid hgd <;> have HG := Lib.hid hg <;> clear hS hgd
  rotate_left
  · clear hg
    go_enter Try.func24, Try.ntmps24
    go_wp2_with (go_at_call 36; refine (HGD.out _ (by repeat' (first | (with_reducible exact Below.refl _ _) | (with_reducible assumption) | (with_reducible refine Below.alloc ?_ ?_ _) | (with_reducible refine Below.drew ?_) | (with_reducible refine Below.setCell ?_ ?_ _) | (with_reducible refine Below.stepB (by assumption) ?_ ?_) | go_size))).mono ?_; rintro e w1 ⟨rfl, hbw1⟩; obtain ⟨hzw1, hcw1, hfw1⟩ := bfacts hbw1; (try simp at hzw1 hcw1 hfw1); (try (have : w.heap.size < w1.heap.size := by omega)); (try (have : w.heap.size + 1 < w1.heap.size := by omega)); (try (have : w.heap.size + 1 + 1 < w1.heap.size := by omega)); (try (have : w.heap.size + 1 + 1 + 1 < w1.heap.size := by omega)))
    go_ret2
    exact VOut.none (cntN_f HG.out) HG.out (by repeat' (first | (with_reducible exact Below.refl _ _) | (with_reducible assumption) | (with_reducible refine Below.alloc ?_ ?_ _) | (with_reducible refine Below.drew ?_) | (with_reducible refine Below.setCell ?_ ?_ _) | (with_reducible refine Below.stepB (by assumption) ?_ ?_) | go_size))
  obtain ⟨⟨hM1, hM15⟩, hn20, -⟩ := goodEd_bd hg
  obtain ⟨M, rfl⟩ : ∃ M : Nat, marks = M := ⟨marks.toNat, by omega⟩
  clear hg
  have HL := Lib.hid (fun W (hb : Below w.heap.size w W) => l14Live_any (some ⟨b, off, none⟩) n c f W (HS.out.below hb) hn)
  go_enter Try.func24, Try.ntmps24
  go_wp2_with (first | (go_at_call 36; refine (HGD.out _ (by repeat' (first | (with_reducible exact Below.refl _ _) | (with_reducible assumption) | (with_reducible refine Below.alloc ?_ ?_ _) | (with_reducible refine Below.drew ?_) | (with_reducible refine Below.setCell ?_ ?_ _) | (with_reducible refine Below.stepB (by assumption) ?_ ?_) | go_size))).mono ?_; rintro e w1 ⟨rfl, hbw1⟩; obtain ⟨hzw1, hcw1, hfw1⟩ := bfacts hbw1; (try simp at hzw1 hcw1 hfw1); (try (have : w.heap.size < w1.heap.size := by omega)); (try (have : w.heap.size + 1 < w1.heap.size := by omega)); (try (have : w.heap.size + 1 + 1 < w1.heap.size := by omega)); (try (have : w.heap.size + 1 + 1 + 1 < w1.heap.size := by omega))) | (go_at_call 39; refine (HL.out _ (by repeat' (first | (with_reducible exact Below.refl _ _) | (with_reducible assumption) | (with_reducible refine Below.alloc ?_ ?_ _) | (with_reducible refine Below.drew ?_) | (with_reducible refine Below.setCell ?_ ?_ _) | (with_reducible refine Below.stepB (by assumption) ?_ ?_) | go_size))).mono ?_; rintro e w5 ⟨b5, c5, rfl, hO5, hc5, hbw5⟩; have HO5 := Lib.hid hO5; clear hO5; obtain ⟨hzw5, hcw5, hfw5⟩ := bfacts hbw5; (try simp at hzw5 hcw5 hfw5); (try (have : w.heap.size < w5.heap.size := by omega)); (try (have : w.heap.size + 1 < w5.heap.size := by omega)); (try (have : w.heap.size + 1 + 1 < w5.heap.size := by omega)); (try (have : w.heap.size + 1 + 1 + 1 < w5.heap.size := by omega))))
  go_ret2
  exact VOut.row (Own.more (own_nat rfl HO5.out) (by omega)) (cntN_t HG.out) HG.out (by repeat' (first | (with_reducible exact Below.refl _ _) | (with_reducible assumption) | (with_reducible refine Below.alloc ?_ ?_ _) | (with_reducible refine Below.drew ?_) | (with_reducible refine Below.setCell ?_ ?_ _) | (with_reducible refine Below.stepB (by assumption) ?_ ?_) | go_size))
set_option maxRecDepth 100000 in
set_option maxHeartbeats 1000000 in
theorem specRejected_any (marks : Int) (b off n c : Nat) (f : Nat → ES) (w : World) (hS : SlES w (some ⟨b, off, none⟩) n f) (hnc : n ≤ c) (hn : n ≤ 1000) : Calls Try.prog 28 #[.int .i64 marks, .slice (some ⟨b, off, none⟩) n c] w
    fun e w' => e = .returned (.tuple #[.int .i64 ((cntN (goodEd marks f n) (rejN f (liveN f n) marks.toNat) : Nat) : Int), .bool (goodEd marks f n)]) ∧ Below w.heap.size w w' := by
  have hgd := fun W (hb : Below w.heap.size w W) => l14Good_any marks b off n c f W (hS.below hb) hnc hn
  have HS := Lib.hid hS
  rcases Bool.eq_false_or_eq_true (goodEd marks f n) with hg | hg <;> rw [hg] at hgd <;> have HGD := Lib.hid hgd <;> have HG := Lib.hid hg <;> clear hS hgd
  rotate_left
  · clear hg
    go_enter Try.func28, Try.ntmps28
    go_wp2_with (go_at_call 36; refine (HGD.out _ (by repeat' (first | (with_reducible exact Below.refl _ _) | (with_reducible assumption) | (with_reducible refine Below.alloc ?_ ?_ _) | (with_reducible refine Below.drew ?_) | (with_reducible refine Below.setCell ?_ ?_ _) | (with_reducible refine Below.stepB (by assumption) ?_ ?_) | go_size))).mono ?_; rintro e w1 ⟨rfl, hbw1⟩; obtain ⟨hzw1, hcw1, hfw1⟩ := bfacts hbw1; (try simp at hzw1 hcw1 hfw1); (try (have : w.heap.size < w1.heap.size := by omega)); (try (have : w.heap.size + 1 < w1.heap.size := by omega)); (try (have : w.heap.size + 1 + 1 < w1.heap.size := by omega)); (try (have : w.heap.size + 1 + 1 + 1 < w1.heap.size := by omega)))
    go_ret2
    exact ⟨by rw [cntN_f HG.out, HG.out]; rfl, by repeat' (first | (with_reducible exact Below.refl _ _) | (with_reducible assumption) | (with_reducible refine Below.alloc ?_ ?_ _) | (with_reducible refine Below.drew ?_) | (with_reducible refine Below.setCell ?_ ?_ _) | (with_reducible refine Below.stepB (by assumption) ?_ ?_) | go_size)⟩
  obtain ⟨⟨hM1, hM15⟩, hn20, -⟩ := goodEd_bd hg
  obtain ⟨M, rfl⟩ : ∃ M : Nat, marks = M := ⟨marks.toNat, by omega⟩
  clear hg
  have HAC := Lib.hid (fun (i : Nat) W (hb : Below w.heap.size w W) => l14Accepted_any (some ⟨b, off, none⟩) n c f i W (HS.out.below hb) hn20)
  go_enter Try.func28, Try.ntmps28
  go_wp2_with (go_at_call 36; refine (HGD.out _ (by repeat' (first | (with_reducible exact Below.refl _ _) | (with_reducible assumption) | (with_reducible refine Below.alloc ?_ ?_ _) | (with_reducible refine Below.drew ?_) | (with_reducible refine Below.setCell ?_ ?_ _) | (with_reducible refine Below.stepB (by assumption) ?_ ?_) | go_size))).mono ?_; rintro e w1 ⟨rfl, hbw1⟩; obtain ⟨hzw1, hcw1, hfw1⟩ := bfacts hbw1; (try simp at hzw1 hcw1 hfw1); (try (have : w.heap.size < w1.heap.size := by omega)); (try (have : w.heap.size + 1 < w1.heap.size := by omega)); (try (have : w.heap.size + 1 + 1 < w1.heap.size := by omega)); (try (have : w.heap.size + 1 + 1 + 1 < w1.heap.size := by omega)))
  go_loopw [6, 7] (fun v6 v7 wr => ∃ i : Nat, i ≤ M ∧ v7 = .int .i64 i ∧ v6 = .int .i64 (rejN f (liveN f n) i : Nat) ∧ Below w.heap.size w wr) (fun _ v7 _ => M - (intOf v7).toNat)
  case atStart => exact ⟨0, Nat.zero_le _, rfl, rfl, by repeat' (first | (with_reducible exact Below.refl _ _) | (with_reducible assumption) | (with_reducible refine Below.alloc ?_ ?_ _) | (with_reducible refine Below.drew ?_) | (with_reducible refine Below.setCell ?_ ?_ _) | (with_reducible refine Below.stepB (by assumption) ?_ ?_) | go_size)⟩
  case round =>
    obtain ⟨i, hi, rfl, rfl, hbr⟩ := hrel
    have hzr := hbr.size
    by_cases hlt : i < M
    · have hle := rejN_le f (liveN f n) i
      have HX : Hid (rejN f (liveN f n) (i + 1) = if accV f (liveN f n) i = true then rejN f (liveN f n) i else rejN f (liveN f n) i + 1) := rfl
      have HA := Lib.hid (fun W hb => HAC.out i W hb)
      generalize rejN f (liveN f n) i = s at HX hle ⊢
      generalize accV f (liveN f n) i = a at HA HX
      cases a
      · have HX2 : Hid (rejN f (liveN f n) (i + 1) = s + 1) := HX.out
        go_wp2_with (go_at_call 40; refine (HA.out _ (by repeat' (first | (with_reducible exact Below.refl _ _) | (with_reducible assumption) | (with_reducible refine Below.alloc ?_ ?_ _) | (with_reducible refine Below.drew ?_) | (with_reducible refine Below.setCell ?_ ?_ _) | (with_reducible refine Below.stepB (by assumption) ?_ ?_) | go_size))).mono ?_; rintro e w5 ⟨rfl, hbw5⟩; obtain ⟨hzw5, hcw5, hfw5⟩ := bfacts hbw5; (try simp at hzw5 hcw5 hfw5); (try (have : w.heap.size < w5.heap.size := by omega)); (try (have : w.heap.size + 1 < w5.heap.size := by omega)); (try (have : w.heap.size + 1 + 1 < w5.heap.size := by omega)); (try (have : w.heap.size + 1 + 1 + 1 < w5.heap.size := by omega)))
        go_roundw
        case rel => exact ⟨i + 1, by omega, by go_num, by rw [HX2.out]; simp, by repeat' (first | (with_reducible exact Below.refl _ _) | (with_reducible assumption) | (with_reducible refine Below.alloc ?_ ?_ _) | (with_reducible refine Below.drew ?_) | (with_reducible refine Below.setCell ?_ ?_ _) | (with_reducible refine Below.stepB (by assumption) ?_ ?_) | go_size)⟩
        case measure => simp [intOf]; omega
      · have HX2 : Hid (rejN f (liveN f n) (i + 1) = s) := HX.out
        go_wp2_with (go_at_call 40; refine (HA.out _ (by repeat' (first | (with_reducible exact Below.refl _ _) | (with_reducible assumption) | (with_reducible refine Below.alloc ?_ ?_ _) | (with_reducible refine Below.drew ?_) | (with_reducible refine Below.setCell ?_ ?_ _) | (with_reducible refine Below.stepB (by assumption) ?_ ?_) | go_size))).mono ?_; rintro e w5 ⟨rfl, hbw5⟩; obtain ⟨hzw5, hcw5, hfw5⟩ := bfacts hbw5; (try simp at hzw5 hcw5 hfw5); (try (have : w.heap.size < w5.heap.size := by omega)); (try (have : w.heap.size + 1 < w5.heap.size := by omega)); (try (have : w.heap.size + 1 + 1 < w5.heap.size := by omega)); (try (have : w.heap.size + 1 + 1 + 1 < w5.heap.size := by omega)))
        go_roundw
        case rel => exact ⟨i + 1, by omega, by go_num, by rw [HX2.out], by repeat' (first | (with_reducible exact Below.refl _ _) | (with_reducible assumption) | (with_reducible refine Below.alloc ?_ ?_ _) | (with_reducible refine Below.drew ?_) | (with_reducible refine Below.setCell ?_ ?_ _) | (with_reducible refine Below.stepB (by assumption) ?_ ?_) | go_size)⟩
        case measure => simp [intOf]; omega
    · obtain rfl : i = M := by omega
      go_wp2
      go_ret2
      exact ⟨by rw [cntN_t HG.out, HG.out, Int.toNat_natCast]; rfl, by repeat' (first | (with_reducible exact Below.refl _ _) | (with_reducible assumption) | (with_reducible refine Below.alloc ?_ ?_ _) | (with_reducible refine Below.drew ?_) | (with_reducible refine Below.setCell ?_ ?_ _) | (with_reducible refine Below.stepB (by assumption) ?_ ?_) | go_size)⟩
end Go.Proofs.Ytbgpmbaonjehbaa
