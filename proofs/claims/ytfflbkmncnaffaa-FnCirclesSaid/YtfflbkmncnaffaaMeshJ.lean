/- Contracts: the corner of a triangle with the least depth: the program's and the reference's. -/
import Derived.Test.YtfflbkmncnaffaaMeshI
namespace Go.Proofs.Ytfflbkmncnaffaa
open Go.RowKit
def betB (x y i best : Int) : Bool := decide (x < y) || ((x == y) && decide (i < best))
def bestT (L : Nat → Int) (t : Nat → Int) : Nat → Int
  | 0 => t 0
  | k + 1 => if betB (L (t k).toNat) (L (bestT L t k).toNat) (t k) (bestT L t k) = true then t k else bestT L t k
theorem bestT_one (L : Nat → Int) (t : Nat → Int) : bestT L t 1 = t 0 := by
  show (if betB _ _ _ _ = true then t 0 else t 0) = t 0
  split <;> rfl
theorem bestT_yes {L : Nat → Int} {t : Nat → Int} {k i b0 : Nat} (e : t k = i) (h : (b0 : Int) = bestT L t k) (q : betB (L i) (L b0) i b0 = true) : (i : Int) = bestT L t (k + 1) := by
  show (i : Int) = if betB (L (t k).toNat) (L (bestT L t k).toNat) (t k) (bestT L t k) = true then t k else bestT L t k
  rw [← h, e, if_pos (by simpa using q)]
theorem bestT_no {L : Nat → Int} {t : Nat → Int} {k i b0 : Nat} (e : t k = i) (h : (b0 : Int) = bestT L t k) (q : betB (L i) (L b0) i b0 = false) : (b0 : Int) = bestT L t (k + 1) := by
  show (b0 : Int) = if betB (L (t k).toNat) (L (bestT L t k).toNat) (t k) (bestT L t k) = true then t k else bestT L t k
  rw [← h, e, if_neg (by simpa using q)]
def shoB (S : Nat → SP) (n : Nat) (T : Nat → Nat → Int) (m : Nat) (L : Nat → Int) (d : Nat) (t : Int) : Bool := depthsB S n T m L d && inB t 0 ((m : Int) - 1)
def shoO (S : Nat → SP) (n : Nat) (T : Nat → Nat → Int) (m : Nat) (L : Nat → Int) (d : Nat) (t : Int) : Int := if shoB S n T m L d t = true then bestT L (T t.toNat) 3 else 0
set_option maxHeartbeats 1000000 in
theorem Shoalest_any (A : Option Addr) (n c : Nat) (S : Nat → SP) (A2 : Option Addr) (m c2 : Nat) (T : Nat → Nat → Int) (A3 : Option Addr) (d c3 : Nat) (L : Nat → Int) (t : Int) (w : World) (hS : SlSP w A n S) (hS2 : SlT w A2 m T) (hS3 : SlI w A3 d L) (hn : n ≤ 1048576) (hm : m ≤ 1048576) (hd : d ≤ 1048576) (hc : n ≤ c) (hc2 : m ≤ c2) :
    Calls Try.prog 43 #[.slice A n c, .slice A2 m c2, .slice A3 d c3, .int .i64 t] w fun e w' => e = .returned (.tuple #[.int .i64 (shoO S n T m L d t), .bool (shoB S n T m L d t)]) ∧ Below w.heap.size w w' := by
  have hg := Lib.hid (fun W (hb : Below w.heap.size w W) => areDepths_any A n c S A2 m c2 T A3 d c3 L W (hS.below hb) (hS2.below hb) (hS3.below hb) hn hm hd hc hc2)
  have hp := fun h => depthsB_parts (S := S) (n := n) (T := T) (m := m) (L := L) (d := d) h
  have hin := fun W => inside_any t 0 ((m : Int) - 1) W
  have ho : shoO S n T m L d t = if shoB S n T m L d t = true then bestT L (T t.toNat) 3 else 0 := rfl
  have hv : shoB S n T m L d t = (depthsB S n T m L d && inB t 0 ((m : Int) - 1)) := rfl
  rw [hv] at ho
  generalize shoO S n T m L d t = o at ho ⊢
  generalize shoB S n T m L d t = bb at hv ⊢
  generalize depthsB S n T m L d = q at hg hv ho hp
  generalize hq2 : inB t 0 ((m : Int) - 1) = q2 at hin hv ho
  have HI := Lib.hid hin
  have HS2 := Lib.hid hS2
  have HS3 := Lib.hid hS3
  clear hS hS2 hS3 hin
  cases q
  · have HO : Hid (o = 0) := ho
    have HV : Hid (bb = false) := hv
    clear ho hv hq2 hp
    go_enter Try.func43, Try.ntmps43
    go_wp2_with fail
    refine (hg.out _ (by repeat' (first | (with_reducible exact Below.refl _ _) | (with_reducible assumption) | (with_reducible refine Below.alloc ?_ ?_ _) | (with_reducible refine Below.drew ?_) | (with_reducible refine Below.setCell ?_ ?_ _) | (with_reducible refine Below.stepB (by assumption) ?_ ?_) | go_size))).mono ?_
    rintro e w1 ⟨rfl, hbw1⟩
    obtain ⟨hzw1, hcw1, hfw1⟩ := bfacts hbw1; (try simp at hzw1 hcw1 hfw1); (try (have : w.heap.size < w1.heap.size := by omega)); (try (have : w.heap.size + 1 < w1.heap.size := by omega)); (try (have : w.heap.size + 1 + 1 < w1.heap.size := by omega)); (try (have : w.heap.size + 1 + 1 + 1 < w1.heap.size := by omega))
    go_wp2
    go_ret2
    exact ⟨by rw [HO.out, HV.out] <;> rfl, by repeat' (first | (with_reducible exact Below.refl _ _) | (with_reducible assumption) | (with_reducible refine Below.alloc ?_ ?_ _) | (with_reducible refine Below.drew ?_) | (with_reducible refine Below.setCell ?_ ?_ _) | (with_reducible refine Below.stepB (by assumption) ?_ ?_) | go_size)⟩
  cases q2
  · have HO : Hid (o = 0) := ho
    have HV : Hid (bb = false) := hv
    clear ho hv hq2 hp
    go_enter Try.func43, Try.ntmps43
    go_wp2_with fail
    refine (hg.out _ (by repeat' (first | (with_reducible exact Below.refl _ _) | (with_reducible assumption) | (with_reducible refine Below.alloc ?_ ?_ _) | (with_reducible refine Below.drew ?_) | (with_reducible refine Below.setCell ?_ ?_ _) | (with_reducible refine Below.stepB (by assumption) ?_ ?_) | go_size))).mono ?_
    rintro e w1 ⟨rfl, hbw1⟩
    obtain ⟨hzw1, hcw1, hfw1⟩ := bfacts hbw1; (try simp at hzw1 hcw1 hfw1); (try (have : w.heap.size < w1.heap.size := by omega)); (try (have : w.heap.size + 1 < w1.heap.size := by omega)); (try (have : w.heap.size + 1 + 1 < w1.heap.size := by omega)); (try (have : w.heap.size + 1 + 1 + 1 < w1.heap.size := by omega))
    go_wp2_with (go_at_call 79; refine (HI.out _).mono ?_; rintro e w' ⟨rfl, rfl⟩)
    go_ret2
    exact ⟨by rw [HO.out, HV.out] <;> rfl, by repeat' (first | (with_reducible exact Below.refl _ _) | (with_reducible assumption) | (with_reducible refine Below.alloc ?_ ?_ _) | (with_reducible refine Below.drew ?_) | (with_reducible refine Below.setCell ?_ ?_ _) | (with_reducible refine Below.stepB (by assumption) ?_ ?_) | go_size)⟩
  have HO : Hid (o = bestT L (T t.toNat) 3) := ho
  have HV : Hid (bb = true) := hv
  obtain ⟨hmb, rfl, -⟩ := hp rfl
  have htr := (meshB_parts hmb).2.2.2
  obtain ⟨t0, t1⟩ := inB_iff.1 hq2
  clear ho hv hq2 hp hmb
  obtain ⟨j, rfl⟩ : ∃ j : Nat, t = j := ⟨t.toNat, by omega⟩
  have HO2 : Hid (o = bestT L (T j) 3) := HO
  have hj : j < m := by omega
  clear HO t0 t1
  obtain ⟨a0, a1, a2, ha0, ha1, ha2, f0, f1, f2⟩ := idxB_nat (trB_idx (htr j hj))
  have HF0 := Lib.hid f0
  have HF1 := Lib.hid f1
  have HF2 := Lib.hid f2
  clear htr
  have i0 : ∀ w, (Instr.index 41 (.agg #[.int .i64 a0, .int .i64 a1, .int .i64 a2]) (.int .i64 0)).run Try.prog w = .ok (.int .i64 a0) w := fun _ => by kernel_rfl
  have i1 : ∀ w, (Instr.index 41 (.agg #[.int .i64 a0, .int .i64 a1, .int .i64 a2]) (.int .i64 1)).run Try.prog w = .ok (.int .i64 a1) w := fun _ => by kernel_rfl
  have i2 : ∀ w, (Instr.index 41 (.agg #[.int .i64 a0, .int .i64 a1, .int .i64 a2]) (.int .i64 2)).run Try.prog w = .ok (.int .i64 a2) w := fun _ => by kernel_rfl
  go_enter Try.func43, Try.ntmps43
  go_wp2_with fail
  refine (hg.out _ (by repeat' (first | (with_reducible exact Below.refl _ _) | (with_reducible assumption) | (with_reducible refine Below.alloc ?_ ?_ _) | (with_reducible refine Below.drew ?_) | (with_reducible refine Below.setCell ?_ ?_ _) | (with_reducible refine Below.stepB (by assumption) ?_ ?_) | go_size))).mono ?_
  rintro e w1 ⟨rfl, hbw1⟩
  obtain ⟨hzw1, hcw1, hfw1⟩ := bfacts hbw1; (try simp at hzw1 hcw1 hfw1); (try (have : w.heap.size < w1.heap.size := by omega)); (try (have : w.heap.size + 1 < w1.heap.size := by omega)); (try (have : w.heap.size + 1 + 1 < w1.heap.size := by omega)); (try (have : w.heap.size + 1 + 1 + 1 < w1.heap.size := by omega))
  obtain ⟨b, off, rfl, hbl, hbl2, c0, c1, c2'⟩ := HS2.out.at (k := j) (Below.refl _ _) hj
  rw [f0] at c0
  rw [f1] at c1
  rw [f2] at c2'
  clear f0 f1 f2
  go_wp2_with (go_at_call 79; refine (HI.out _).mono ?_; rintro e w' ⟨rfl, rfl⟩)
  clear c0 c1 c2'
  go_loopw [35, 10] (fun vc v10 wr => ∃ k best : Nat, k ≤ 3 ∧ vc = .int .i64 k ∧ v10 = .int .i64 best ∧ best < d ∧ Hid ((best : Int) = bestT L (T j) k) ∧ Below w.heap.size w wr) (fun vc _ _ => 3 - (intOf vc).toNat)
  case atStart => exact ⟨0, a0, by omega, rfl, rfl, ha0, HF0.out.symm, by repeat' (first | (with_reducible exact Below.refl _ _) | (with_reducible assumption) | (with_reducible refine Below.alloc ?_ ?_ _) | (with_reducible refine Below.drew ?_) | (with_reducible refine Below.setCell ?_ ?_ _) | (with_reducible refine Below.stepB (by assumption) ?_ ?_) | go_size)⟩
  case round =>
    obtain ⟨k, best, hk, rfl, rfl, hbest, hbb, hbr⟩ := hrel
    have hzr := hbr.size
    obtain rfl | rfl | rfl | rfl : k = 0 ∨ k = 1 ∨ k = 2 ∨ k = 3 := by omega
    · skip
      have HB := Lib.hid hbb
      clear hbb
      obtain ⟨b3, off3, rfl, hbl3, hbw3', l0⟩ := HS3.out.at (k := a0) hbr ha0
      obtain ⟨b4, off4, hA4, _, _, l1⟩ := HS3.out.at (k := best) hbr hbest
      obtain ⟨rfl, rfl⟩ : b3 = b4 ∧ off3 = off4 := by simpa using hA4
      clear hA4
      have HY := Lib.hid (fun h => bestT_yes (L := L) (t := T j) (k := 0) (i := a0) (b0 := best) HF0.out HB.out h)
      have HNO := Lib.hid (fun h => bestT_no (L := L) (t := T j) (k := 0) (i := a0) (b0 := best) HF0.out HB.out h)
      generalize L a0 = x at l0 HY HNO
      generalize hy : L best = y at l1 HY HNO
      clear hy
      have HBR := Lib.hid hbr
      clear hbr
      by_cases h1 : x < y
      · have HN := Lib.hid (HY.out (by simp [betB, h1]))
        go_wp2
        refine wp_region_later (by kernel_rfl) (by kernel_rfl) (fun hlx => ?_)
        repeat (go_big_quiet_step (fail))
        refine wpQuiet_nil ?_
        clear hlx
        intro w3 hbw3
        obtain ⟨hzw3, hcw3, hfw3⟩ := bfacts hbw3; (try simp at hzw3 hcw3 hfw3); (try (have : w.heap.size < w3.heap.size := by omega)); (try (have : w.heap.size + 1 < w3.heap.size := by omega)); (try (have : w.heap.size + 1 + 1 < w3.heap.size := by omega)); (try (have : w.heap.size + 1 + 1 + 1 < w3.heap.size := by omega))
        go_wp2
        go_roundw
        case rel => exact ⟨1, a0, by omega, by go_num, rfl, by omega, HN.out, by have hbr := HBR.out; repeat' (first | (with_reducible exact Below.refl _ _) | (with_reducible assumption) | (with_reducible refine Below.alloc ?_ ?_ _) | (with_reducible refine Below.drew ?_) | (with_reducible refine Below.setCell ?_ ?_ _) | (with_reducible refine Below.stepB (by assumption) ?_ ?_) | go_size)⟩
        case measure => simp [intOf]
      have h1f : decide (x < y) = false := by simpa using h1
      by_cases h2 : x = y
      · have h2t : (x == y) = true := by simpa using h2
        by_cases h3 : (a0 : Int) < best
        · have HN := Lib.hid (HY.out (by simp [betB, h2, h3]))
          clear h1 h2
          go_wp2
          refine wp_region_later (by kernel_rfl) (by kernel_rfl) (fun hlx => ?_)
          repeat (go_big_quiet_step (fail))
          refine wpQuiet_nil ?_
          clear hlx
          intro w3 hbw3
          obtain ⟨hzw3, hcw3, hfw3⟩ := bfacts hbw3; (try simp at hzw3 hcw3 hfw3); (try (have : w.heap.size < w3.heap.size := by omega)); (try (have : w.heap.size + 1 < w3.heap.size := by omega)); (try (have : w.heap.size + 1 + 1 < w3.heap.size := by omega)); (try (have : w.heap.size + 1 + 1 + 1 < w3.heap.size := by omega))
          go_wp2
          go_roundw
          case rel => exact ⟨1, a0, by omega, by go_num, rfl, by omega, HN.out, by have hbr := HBR.out; repeat' (first | (with_reducible exact Below.refl _ _) | (with_reducible assumption) | (with_reducible refine Below.alloc ?_ ?_ _) | (with_reducible refine Below.drew ?_) | (with_reducible refine Below.setCell ?_ ?_ _) | (with_reducible refine Below.stepB (by assumption) ?_ ?_) | go_size)⟩
          case measure => simp [intOf]
        · have HN := Lib.hid (HNO.out (by simp [betB, h2]; omega))
          have h3f : decide (a0 < best) = false := decide_eq_false (show ¬ a0 < best by omega)
          have h3g : decide ((a0 : Int) < (best : Int)) = false := decide_eq_false (show ¬ (a0 : Int) < (best : Int) by omega)
          clear h1 h2 h3
          go_wp2
          refine wp_region_later (by kernel_rfl) (by kernel_rfl) (fun hlx => ?_)
          repeat (go_big_quiet_step (fail))
          refine wpQuiet_nil ?_
          clear hlx
          intro w3 hbw3
          obtain ⟨hzw3, hcw3, hfw3⟩ := bfacts hbw3; (try simp at hzw3 hcw3 hfw3); (try (have : w.heap.size < w3.heap.size := by omega)); (try (have : w.heap.size + 1 < w3.heap.size := by omega)); (try (have : w.heap.size + 1 + 1 < w3.heap.size := by omega)); (try (have : w.heap.size + 1 + 1 + 1 < w3.heap.size := by omega))
          go_wp2
          go_roundw
          case rel => exact ⟨1, best, by omega, by go_num, rfl, by omega, HN.out, by have hbr := HBR.out; repeat' (first | (with_reducible exact Below.refl _ _) | (with_reducible assumption) | (with_reducible refine Below.alloc ?_ ?_ _) | (with_reducible refine Below.drew ?_) | (with_reducible refine Below.setCell ?_ ?_ _) | (with_reducible refine Below.stepB (by assumption) ?_ ?_) | go_size)⟩
          case measure => simp [intOf]
      · have h2f : (x == y) = false := by simpa using h2
        have HN := Lib.hid (HNO.out (by simp [betB, h2]; omega))
        clear h1 h2
        go_wp2
        refine wp_region_later (by kernel_rfl) (by kernel_rfl) (fun hlx => ?_)
        repeat (go_big_quiet_step (fail))
        refine wpQuiet_nil ?_
        clear hlx
        intro w3 hbw3
        obtain ⟨hzw3, hcw3, hfw3⟩ := bfacts hbw3; (try simp at hzw3 hcw3 hfw3); (try (have : w.heap.size < w3.heap.size := by omega)); (try (have : w.heap.size + 1 < w3.heap.size := by omega)); (try (have : w.heap.size + 1 + 1 < w3.heap.size := by omega)); (try (have : w.heap.size + 1 + 1 + 1 < w3.heap.size := by omega))
        go_wp2
        go_roundw
        case rel => exact ⟨1, best, by omega, by go_num, rfl, by omega, HN.out, by have hbr := HBR.out; repeat' (first | (with_reducible exact Below.refl _ _) | (with_reducible assumption) | (with_reducible refine Below.alloc ?_ ?_ _) | (with_reducible refine Below.drew ?_) | (with_reducible refine Below.setCell ?_ ?_ _) | (with_reducible refine Below.stepB (by assumption) ?_ ?_) | go_size)⟩
        case measure => simp [intOf]
    · skip
      have HB := Lib.hid hbb
      clear hbb
      obtain ⟨b3, off3, rfl, hbl3, hbw3', l0⟩ := HS3.out.at (k := a1) hbr ha1
      obtain ⟨b4, off4, hA4, _, _, l1⟩ := HS3.out.at (k := best) hbr hbest
      obtain ⟨rfl, rfl⟩ : b3 = b4 ∧ off3 = off4 := by simpa using hA4
      clear hA4
      have HY := Lib.hid (fun h => bestT_yes (L := L) (t := T j) (k := 1) (i := a1) (b0 := best) HF1.out HB.out h)
      have HNO := Lib.hid (fun h => bestT_no (L := L) (t := T j) (k := 1) (i := a1) (b0 := best) HF1.out HB.out h)
      generalize L a1 = x at l0 HY HNO
      generalize hy : L best = y at l1 HY HNO
      clear hy
      have HBR := Lib.hid hbr
      clear hbr
      by_cases h1 : x < y
      · have HN := Lib.hid (HY.out (by simp [betB, h1]))
        go_wp2
        refine wp_region_later (by kernel_rfl) (by kernel_rfl) (fun hlx => ?_)
        repeat (go_big_quiet_step (fail))
        refine wpQuiet_nil ?_
        clear hlx
        intro w3 hbw3
        obtain ⟨hzw3, hcw3, hfw3⟩ := bfacts hbw3; (try simp at hzw3 hcw3 hfw3); (try (have : w.heap.size < w3.heap.size := by omega)); (try (have : w.heap.size + 1 < w3.heap.size := by omega)); (try (have : w.heap.size + 1 + 1 < w3.heap.size := by omega)); (try (have : w.heap.size + 1 + 1 + 1 < w3.heap.size := by omega))
        go_wp2
        go_roundw
        case rel => exact ⟨2, a1, by omega, by go_num, rfl, by omega, HN.out, by have hbr := HBR.out; repeat' (first | (with_reducible exact Below.refl _ _) | (with_reducible assumption) | (with_reducible refine Below.alloc ?_ ?_ _) | (with_reducible refine Below.drew ?_) | (with_reducible refine Below.setCell ?_ ?_ _) | (with_reducible refine Below.stepB (by assumption) ?_ ?_) | go_size)⟩
        case measure => simp [intOf]
      have h1f : decide (x < y) = false := by simpa using h1
      by_cases h2 : x = y
      · have h2t : (x == y) = true := by simpa using h2
        by_cases h3 : (a1 : Int) < best
        · have HN := Lib.hid (HY.out (by simp [betB, h2, h3]))
          clear h1 h2
          go_wp2
          refine wp_region_later (by kernel_rfl) (by kernel_rfl) (fun hlx => ?_)
          repeat (go_big_quiet_step (fail))
          refine wpQuiet_nil ?_
          clear hlx
          intro w3 hbw3
          obtain ⟨hzw3, hcw3, hfw3⟩ := bfacts hbw3; (try simp at hzw3 hcw3 hfw3); (try (have : w.heap.size < w3.heap.size := by omega)); (try (have : w.heap.size + 1 < w3.heap.size := by omega)); (try (have : w.heap.size + 1 + 1 < w3.heap.size := by omega)); (try (have : w.heap.size + 1 + 1 + 1 < w3.heap.size := by omega))
          go_wp2
          go_roundw
          case rel => exact ⟨2, a1, by omega, by go_num, rfl, by omega, HN.out, by have hbr := HBR.out; repeat' (first | (with_reducible exact Below.refl _ _) | (with_reducible assumption) | (with_reducible refine Below.alloc ?_ ?_ _) | (with_reducible refine Below.drew ?_) | (with_reducible refine Below.setCell ?_ ?_ _) | (with_reducible refine Below.stepB (by assumption) ?_ ?_) | go_size)⟩
          case measure => simp [intOf]
        · have HN := Lib.hid (HNO.out (by simp [betB, h2]; omega))
          have h3f : decide (a1 < best) = false := decide_eq_false (show ¬ a1 < best by omega)
          have h3g : decide ((a1 : Int) < (best : Int)) = false := decide_eq_false (show ¬ (a1 : Int) < (best : Int) by omega)
          clear h1 h2 h3
          go_wp2
          refine wp_region_later (by kernel_rfl) (by kernel_rfl) (fun hlx => ?_)
          repeat (go_big_quiet_step (fail))
          refine wpQuiet_nil ?_
          clear hlx
          intro w3 hbw3
          obtain ⟨hzw3, hcw3, hfw3⟩ := bfacts hbw3; (try simp at hzw3 hcw3 hfw3); (try (have : w.heap.size < w3.heap.size := by omega)); (try (have : w.heap.size + 1 < w3.heap.size := by omega)); (try (have : w.heap.size + 1 + 1 < w3.heap.size := by omega)); (try (have : w.heap.size + 1 + 1 + 1 < w3.heap.size := by omega))
          go_wp2
          go_roundw
          case rel => exact ⟨2, best, by omega, by go_num, rfl, by omega, HN.out, by have hbr := HBR.out; repeat' (first | (with_reducible exact Below.refl _ _) | (with_reducible assumption) | (with_reducible refine Below.alloc ?_ ?_ _) | (with_reducible refine Below.drew ?_) | (with_reducible refine Below.setCell ?_ ?_ _) | (with_reducible refine Below.stepB (by assumption) ?_ ?_) | go_size)⟩
          case measure => simp [intOf]
      · have h2f : (x == y) = false := by simpa using h2
        have HN := Lib.hid (HNO.out (by simp [betB, h2]; omega))
        clear h1 h2
        go_wp2
        refine wp_region_later (by kernel_rfl) (by kernel_rfl) (fun hlx => ?_)
        repeat (go_big_quiet_step (fail))
        refine wpQuiet_nil ?_
        clear hlx
        intro w3 hbw3
        obtain ⟨hzw3, hcw3, hfw3⟩ := bfacts hbw3; (try simp at hzw3 hcw3 hfw3); (try (have : w.heap.size < w3.heap.size := by omega)); (try (have : w.heap.size + 1 < w3.heap.size := by omega)); (try (have : w.heap.size + 1 + 1 < w3.heap.size := by omega)); (try (have : w.heap.size + 1 + 1 + 1 < w3.heap.size := by omega))
        go_wp2
        go_roundw
        case rel => exact ⟨2, best, by omega, by go_num, rfl, by omega, HN.out, by have hbr := HBR.out; repeat' (first | (with_reducible exact Below.refl _ _) | (with_reducible assumption) | (with_reducible refine Below.alloc ?_ ?_ _) | (with_reducible refine Below.drew ?_) | (with_reducible refine Below.setCell ?_ ?_ _) | (with_reducible refine Below.stepB (by assumption) ?_ ?_) | go_size)⟩
        case measure => simp [intOf]
    · skip
      have HB := Lib.hid hbb
      clear hbb
      obtain ⟨b3, off3, rfl, hbl3, hbw3', l0⟩ := HS3.out.at (k := a2) hbr ha2
      obtain ⟨b4, off4, hA4, _, _, l1⟩ := HS3.out.at (k := best) hbr hbest
      obtain ⟨rfl, rfl⟩ : b3 = b4 ∧ off3 = off4 := by simpa using hA4
      clear hA4
      have HY := Lib.hid (fun h => bestT_yes (L := L) (t := T j) (k := 2) (i := a2) (b0 := best) HF2.out HB.out h)
      have HNO := Lib.hid (fun h => bestT_no (L := L) (t := T j) (k := 2) (i := a2) (b0 := best) HF2.out HB.out h)
      generalize L a2 = x at l0 HY HNO
      generalize hy : L best = y at l1 HY HNO
      clear hy
      have HBR := Lib.hid hbr
      clear hbr
      by_cases h1 : x < y
      · have HN := Lib.hid (HY.out (by simp [betB, h1]))
        go_wp2
        refine wp_region_later (by kernel_rfl) (by kernel_rfl) (fun hlx => ?_)
        repeat (go_big_quiet_step (fail))
        refine wpQuiet_nil ?_
        clear hlx
        intro w3 hbw3
        obtain ⟨hzw3, hcw3, hfw3⟩ := bfacts hbw3; (try simp at hzw3 hcw3 hfw3); (try (have : w.heap.size < w3.heap.size := by omega)); (try (have : w.heap.size + 1 < w3.heap.size := by omega)); (try (have : w.heap.size + 1 + 1 < w3.heap.size := by omega)); (try (have : w.heap.size + 1 + 1 + 1 < w3.heap.size := by omega))
        go_wp2
        go_roundw
        case rel => exact ⟨3, a2, by omega, by go_num, rfl, by omega, HN.out, by have hbr := HBR.out; repeat' (first | (with_reducible exact Below.refl _ _) | (with_reducible assumption) | (with_reducible refine Below.alloc ?_ ?_ _) | (with_reducible refine Below.drew ?_) | (with_reducible refine Below.setCell ?_ ?_ _) | (with_reducible refine Below.stepB (by assumption) ?_ ?_) | go_size)⟩
        case measure => simp [intOf]
      have h1f : decide (x < y) = false := by simpa using h1
      by_cases h2 : x = y
      · have h2t : (x == y) = true := by simpa using h2
        by_cases h3 : (a2 : Int) < best
        · have HN := Lib.hid (HY.out (by simp [betB, h2, h3]))
          clear h1 h2
          go_wp2
          refine wp_region_later (by kernel_rfl) (by kernel_rfl) (fun hlx => ?_)
          repeat (go_big_quiet_step (fail))
          refine wpQuiet_nil ?_
          clear hlx
          intro w3 hbw3
          obtain ⟨hzw3, hcw3, hfw3⟩ := bfacts hbw3; (try simp at hzw3 hcw3 hfw3); (try (have : w.heap.size < w3.heap.size := by omega)); (try (have : w.heap.size + 1 < w3.heap.size := by omega)); (try (have : w.heap.size + 1 + 1 < w3.heap.size := by omega)); (try (have : w.heap.size + 1 + 1 + 1 < w3.heap.size := by omega))
          go_wp2
          go_roundw
          case rel => exact ⟨3, a2, by omega, by go_num, rfl, by omega, HN.out, by have hbr := HBR.out; repeat' (first | (with_reducible exact Below.refl _ _) | (with_reducible assumption) | (with_reducible refine Below.alloc ?_ ?_ _) | (with_reducible refine Below.drew ?_) | (with_reducible refine Below.setCell ?_ ?_ _) | (with_reducible refine Below.stepB (by assumption) ?_ ?_) | go_size)⟩
          case measure => simp [intOf]
        · have HN := Lib.hid (HNO.out (by simp [betB, h2]; omega))
          have h3f : decide (a2 < best) = false := decide_eq_false (show ¬ a2 < best by omega)
          have h3g : decide ((a2 : Int) < (best : Int)) = false := decide_eq_false (show ¬ (a2 : Int) < (best : Int) by omega)
          clear h1 h2 h3
          go_wp2
          refine wp_region_later (by kernel_rfl) (by kernel_rfl) (fun hlx => ?_)
          repeat (go_big_quiet_step (fail))
          refine wpQuiet_nil ?_
          clear hlx
          intro w3 hbw3
          obtain ⟨hzw3, hcw3, hfw3⟩ := bfacts hbw3; (try simp at hzw3 hcw3 hfw3); (try (have : w.heap.size < w3.heap.size := by omega)); (try (have : w.heap.size + 1 < w3.heap.size := by omega)); (try (have : w.heap.size + 1 + 1 < w3.heap.size := by omega)); (try (have : w.heap.size + 1 + 1 + 1 < w3.heap.size := by omega))
          go_wp2
          go_roundw
          case rel => exact ⟨3, best, by omega, by go_num, rfl, by omega, HN.out, by have hbr := HBR.out; repeat' (first | (with_reducible exact Below.refl _ _) | (with_reducible assumption) | (with_reducible refine Below.alloc ?_ ?_ _) | (with_reducible refine Below.drew ?_) | (with_reducible refine Below.setCell ?_ ?_ _) | (with_reducible refine Below.stepB (by assumption) ?_ ?_) | go_size)⟩
          case measure => simp [intOf]
      · have h2f : (x == y) = false := by simpa using h2
        have HN := Lib.hid (HNO.out (by simp [betB, h2]; omega))
        clear h1 h2
        go_wp2
        refine wp_region_later (by kernel_rfl) (by kernel_rfl) (fun hlx => ?_)
        repeat (go_big_quiet_step (fail))
        refine wpQuiet_nil ?_
        clear hlx
        intro w3 hbw3
        obtain ⟨hzw3, hcw3, hfw3⟩ := bfacts hbw3; (try simp at hzw3 hcw3 hfw3); (try (have : w.heap.size < w3.heap.size := by omega)); (try (have : w.heap.size + 1 < w3.heap.size := by omega)); (try (have : w.heap.size + 1 + 1 < w3.heap.size := by omega)); (try (have : w.heap.size + 1 + 1 + 1 < w3.heap.size := by omega))
        go_wp2
        go_roundw
        case rel => exact ⟨3, best, by omega, by go_num, rfl, by omega, HN.out, by have hbr := HBR.out; repeat' (first | (with_reducible exact Below.refl _ _) | (with_reducible assumption) | (with_reducible refine Below.alloc ?_ ?_ _) | (with_reducible refine Below.drew ?_) | (with_reducible refine Below.setCell ?_ ?_ _) | (with_reducible refine Below.stepB (by assumption) ?_ ?_) | go_size)⟩
        case measure => simp [intOf]
    · have HN : Hid ((best : Int) = o) := by show _ = _; rw [HO2.out]; exact hbb
      clear hbb
      go_wp2
      go_ret2
      exact ⟨by rw [HN.out, HV.out] <;> rfl, by repeat' (first | (with_reducible exact Below.refl _ _) | (with_reducible assumption) | (with_reducible refine Below.alloc ?_ ?_ _) | (with_reducible refine Below.drew ?_) | (with_reducible refine Below.setCell ?_ ?_ _) | (with_reducible refine Below.stepB (by assumption) ?_ ?_) | go_size)⟩
set_option maxHeartbeats 1000000 in
theorem specShoalest_any (A : Option Addr) (n c : Nat) (S : Nat → SP) (A2 : Option Addr) (m c2 : Nat) (T : Nat → Nat → Int) (A3 : Option Addr) (d c3 : Nat) (L : Nat → Int) (t : Int) (w : World) (hS : SlSP w A n S) (hS2 : SlT w A2 m T) (hS3 : SlI w A3 d L) (hn : n ≤ 1048576) (hm : m ≤ 1048576) (hd : d ≤ 1048576) :
    Calls Try.prog 44 #[.slice A n c, .slice A2 m c2, .slice A3 d c3, .int .i64 t] w fun e w' => e = .returned (.tuple #[.int .i64 (shoO S n T m L d t), .bool (shoB S n T m L d t)]) ∧ Below w.heap.size w w' := by
  have hg := Lib.hid (fun W (hb : Below w.heap.size w W) => l15Depths_any A n c S A2 m c2 T A3 d c3 L W (hS.below hb) (hS2.below hb) (hS3.below hb) hn hm hd)
  have hp := fun h => depthsB_parts (S := S) (n := n) (T := T) (m := m) (L := L) (d := d) h
  have hin := fun W => l1In_any t 0 ((m : Int) - 1) W
  have ho : shoO S n T m L d t = if shoB S n T m L d t = true then bestT L (T t.toNat) 3 else 0 := rfl
  have hv : shoB S n T m L d t = (depthsB S n T m L d && inB t 0 ((m : Int) - 1)) := rfl
  rw [hv] at ho
  generalize shoO S n T m L d t = o at ho ⊢
  generalize shoB S n T m L d t = bb at hv ⊢
  generalize depthsB S n T m L d = q at hg hv ho hp
  generalize hq2 : inB t 0 ((m : Int) - 1) = q2 at hin hv ho
  have HI := Lib.hid hin
  have HS2 := Lib.hid hS2
  have HS3 := Lib.hid hS3
  clear hS hS2 hS3 hin
  cases q
  · have HO : Hid (o = 0) := ho
    have HV : Hid (bb = false) := hv
    clear ho hv hq2 hp
    go_enter Try.func44, Try.ntmps44
    go_wp2_with fail
    refine (hg.out _ (by repeat' (first | (with_reducible exact Below.refl _ _) | (with_reducible assumption) | (with_reducible refine Below.alloc ?_ ?_ _) | (with_reducible refine Below.drew ?_) | (with_reducible refine Below.setCell ?_ ?_ _) | (with_reducible refine Below.stepB (by assumption) ?_ ?_) | go_size))).mono ?_
    rintro e w1 ⟨rfl, hbw1⟩
    obtain ⟨hzw1, hcw1, hfw1⟩ := bfacts hbw1; (try simp at hzw1 hcw1 hfw1); (try (have : w.heap.size < w1.heap.size := by omega)); (try (have : w.heap.size + 1 < w1.heap.size := by omega)); (try (have : w.heap.size + 1 + 1 < w1.heap.size := by omega)); (try (have : w.heap.size + 1 + 1 + 1 < w1.heap.size := by omega))
    go_wp2
    go_ret2
    exact ⟨by rw [HO.out, HV.out] <;> rfl, by repeat' (first | (with_reducible exact Below.refl _ _) | (with_reducible assumption) | (with_reducible refine Below.alloc ?_ ?_ _) | (with_reducible refine Below.drew ?_) | (with_reducible refine Below.setCell ?_ ?_ _) | (with_reducible refine Below.stepB (by assumption) ?_ ?_) | go_size)⟩
  cases q2
  · have HO : Hid (o = 0) := ho
    have HV : Hid (bb = false) := hv
    clear ho hv hq2 hp
    go_enter Try.func44, Try.ntmps44
    go_wp2_with fail
    refine (hg.out _ (by repeat' (first | (with_reducible exact Below.refl _ _) | (with_reducible assumption) | (with_reducible refine Below.alloc ?_ ?_ _) | (with_reducible refine Below.drew ?_) | (with_reducible refine Below.setCell ?_ ?_ _) | (with_reducible refine Below.stepB (by assumption) ?_ ?_) | go_size))).mono ?_
    rintro e w1 ⟨rfl, hbw1⟩
    obtain ⟨hzw1, hcw1, hfw1⟩ := bfacts hbw1; (try simp at hzw1 hcw1 hfw1); (try (have : w.heap.size < w1.heap.size := by omega)); (try (have : w.heap.size + 1 < w1.heap.size := by omega)); (try (have : w.heap.size + 1 + 1 < w1.heap.size := by omega)); (try (have : w.heap.size + 1 + 1 + 1 < w1.heap.size := by omega))
    go_wp2_with (go_at_call 92; refine (HI.out _).mono ?_; rintro e w' ⟨rfl, rfl⟩)
    go_ret2
    exact ⟨by rw [HO.out, HV.out] <;> rfl, by repeat' (first | (with_reducible exact Below.refl _ _) | (with_reducible assumption) | (with_reducible refine Below.alloc ?_ ?_ _) | (with_reducible refine Below.drew ?_) | (with_reducible refine Below.setCell ?_ ?_ _) | (with_reducible refine Below.stepB (by assumption) ?_ ?_) | go_size)⟩
  have HO : Hid (o = bestT L (T t.toNat) 3) := ho
  have HV : Hid (bb = true) := hv
  obtain ⟨hmb, rfl, -⟩ := hp rfl
  have htr := (meshB_parts hmb).2.2.2
  obtain ⟨t0, t1⟩ := inB_iff.1 hq2
  clear ho hv hq2 hp hmb
  obtain ⟨j, rfl⟩ : ∃ j : Nat, t = j := ⟨t.toNat, by omega⟩
  have HO2 : Hid (o = bestT L (T j) 3) := HO
  have hj : j < m := by omega
  clear HO t0 t1
  obtain ⟨a0, a1, a2, ha0, ha1, ha2, f0, f1, f2⟩ := idxB_nat (trB_idx (htr j hj))
  have HF0 := Lib.hid f0
  have HF1 := Lib.hid f1
  have HF2 := Lib.hid f2
  clear htr
  go_enter Try.func44, Try.ntmps44
  go_wp2_with fail
  refine (hg.out _ (by repeat' (first | (with_reducible exact Below.refl _ _) | (with_reducible assumption) | (with_reducible refine Below.alloc ?_ ?_ _) | (with_reducible refine Below.drew ?_) | (with_reducible refine Below.setCell ?_ ?_ _) | (with_reducible refine Below.stepB (by assumption) ?_ ?_) | go_size))).mono ?_
  rintro e w1 ⟨rfl, hbw1⟩
  obtain ⟨hzw1, hcw1, hfw1⟩ := bfacts hbw1; (try simp at hzw1 hcw1 hfw1); (try (have : w.heap.size < w1.heap.size := by omega)); (try (have : w.heap.size + 1 < w1.heap.size := by omega)); (try (have : w.heap.size + 1 + 1 < w1.heap.size := by omega)); (try (have : w.heap.size + 1 + 1 + 1 < w1.heap.size := by omega))
  obtain ⟨b, off, rfl, hbl, hbl2, c0, c1, c2'⟩ := HS2.out.at (k := j) (Below.refl _ _) hj
  rw [f0] at c0
  go_wp2_with (go_at_call 92; refine (HI.out _).mono ?_; rintro e w' ⟨rfl, rfl⟩)
  clear c0 c1 c2'
  go_loopw [11, 10] (fun vc v10 wr => ∃ k best : Nat, (1 ≤ k ∧ k ≤ 3) ∧ vc = .int .i64 k ∧ v10 = .int .i64 best ∧ best < d ∧ Hid ((best : Int) = bestT L (T j) k) ∧ Below w.heap.size w wr) (fun vc _ _ => 3 - (intOf vc).toNat)
  case atStart => exact ⟨1, a0, by omega, rfl, rfl, ha0, by show _ = _; rw [bestT_one, HF0.out], by repeat' (first | (with_reducible exact Below.refl _ _) | (with_reducible assumption) | (with_reducible refine Below.alloc ?_ ?_ _) | (with_reducible refine Below.drew ?_) | (with_reducible refine Below.setCell ?_ ?_ _) | (with_reducible refine Below.stepB (by assumption) ?_ ?_) | go_size)⟩
  case round =>
    obtain ⟨k, best, hk, rfl, rfl, hbest, hbb, hbr⟩ := hrel
    have hzr := hbr.size
    obtain ⟨b', off', hA', hbl, hbl2, c0, c1, c2'⟩ := HS2.out.at (k := j) hbr hj
    obtain ⟨rfl, rfl⟩ : b = b' ∧ off = off' := by simpa using hA'
    rw [f1] at c1
    rw [f2] at c2'
    clear f0 f1 f2 hA'
    obtain rfl | rfl | rfl : k = 1 ∨ k = 2 ∨ k = 3 := by omega
    · skip
      have HB := Lib.hid hbb
      clear hbb
      obtain ⟨b3, off3, rfl, hbl3, hbw3', l0⟩ := HS3.out.at (k := a1) hbr ha1
      obtain ⟨b4, off4, hA4, _, _, l1⟩ := HS3.out.at (k := best) hbr hbest
      obtain ⟨rfl, rfl⟩ : b3 = b4 ∧ off3 = off4 := by simpa using hA4
      clear hA4
      have HY := Lib.hid (fun h => bestT_yes (L := L) (t := T j) (k := 1) (i := a1) (b0 := best) HF1.out HB.out h)
      have HNO := Lib.hid (fun h => bestT_no (L := L) (t := T j) (k := 1) (i := a1) (b0 := best) HF1.out HB.out h)
      generalize L a1 = x at l0 HY HNO
      generalize hy : L best = y at l1 HY HNO
      clear hy
      have HBR := Lib.hid hbr
      clear hbr
      by_cases h1 : x < y
      · have HN := Lib.hid (HY.out (by simp [betB, h1]))
        go_wp2
        refine wp_region_later (by kernel_rfl) (by kernel_rfl) (fun hlx => ?_)
        repeat (go_big_quiet_step (fail))
        refine wpQuiet_nil ?_
        clear hlx
        intro w3 hbw3
        obtain ⟨hzw3, hcw3, hfw3⟩ := bfacts hbw3; (try simp at hzw3 hcw3 hfw3); (try (have : w.heap.size < w3.heap.size := by omega)); (try (have : w.heap.size + 1 < w3.heap.size := by omega)); (try (have : w.heap.size + 1 + 1 < w3.heap.size := by omega)); (try (have : w.heap.size + 1 + 1 + 1 < w3.heap.size := by omega))
        go_wp2
        go_roundw
        case rel => exact ⟨2, a1, by omega, by go_num, rfl, by omega, HN.out, by have hbr := HBR.out; repeat' (first | (with_reducible exact Below.refl _ _) | (with_reducible assumption) | (with_reducible refine Below.alloc ?_ ?_ _) | (with_reducible refine Below.drew ?_) | (with_reducible refine Below.setCell ?_ ?_ _) | (with_reducible refine Below.stepB (by assumption) ?_ ?_) | go_size)⟩
        case measure => simp [intOf]
      have h1f : decide (x < y) = false := by simpa using h1
      by_cases h2 : x = y
      · have h2t : (x == y) = true := by simpa using h2
        by_cases h3 : (a1 : Int) < best
        · have HN := Lib.hid (HY.out (by simp [betB, h2, h3]))
          clear h1 h2
          go_wp2
          refine wp_region_later (by kernel_rfl) (by kernel_rfl) (fun hlx => ?_)
          repeat (go_big_quiet_step (fail))
          refine wpQuiet_nil ?_
          clear hlx
          intro w3 hbw3
          obtain ⟨hzw3, hcw3, hfw3⟩ := bfacts hbw3; (try simp at hzw3 hcw3 hfw3); (try (have : w.heap.size < w3.heap.size := by omega)); (try (have : w.heap.size + 1 < w3.heap.size := by omega)); (try (have : w.heap.size + 1 + 1 < w3.heap.size := by omega)); (try (have : w.heap.size + 1 + 1 + 1 < w3.heap.size := by omega))
          go_wp2
          go_roundw
          case rel => exact ⟨2, a1, by omega, by go_num, rfl, by omega, HN.out, by have hbr := HBR.out; repeat' (first | (with_reducible exact Below.refl _ _) | (with_reducible assumption) | (with_reducible refine Below.alloc ?_ ?_ _) | (with_reducible refine Below.drew ?_) | (with_reducible refine Below.setCell ?_ ?_ _) | (with_reducible refine Below.stepB (by assumption) ?_ ?_) | go_size)⟩
          case measure => simp [intOf]
        · have HN := Lib.hid (HNO.out (by simp [betB, h2]; omega))
          have h3f : decide (a1 < best) = false := decide_eq_false (show ¬ a1 < best by omega)
          have h3g : decide ((a1 : Int) < (best : Int)) = false := decide_eq_false (show ¬ (a1 : Int) < (best : Int) by omega)
          clear h1 h2 h3
          go_wp2
          refine wp_region_later (by kernel_rfl) (by kernel_rfl) (fun hlx => ?_)
          repeat (go_big_quiet_step (fail))
          refine wpQuiet_nil ?_
          clear hlx
          intro w3 hbw3
          obtain ⟨hzw3, hcw3, hfw3⟩ := bfacts hbw3; (try simp at hzw3 hcw3 hfw3); (try (have : w.heap.size < w3.heap.size := by omega)); (try (have : w.heap.size + 1 < w3.heap.size := by omega)); (try (have : w.heap.size + 1 + 1 < w3.heap.size := by omega)); (try (have : w.heap.size + 1 + 1 + 1 < w3.heap.size := by omega))
          go_wp2
          go_roundw
          case rel => exact ⟨2, best, by omega, by go_num, rfl, by omega, HN.out, by have hbr := HBR.out; repeat' (first | (with_reducible exact Below.refl _ _) | (with_reducible assumption) | (with_reducible refine Below.alloc ?_ ?_ _) | (with_reducible refine Below.drew ?_) | (with_reducible refine Below.setCell ?_ ?_ _) | (with_reducible refine Below.stepB (by assumption) ?_ ?_) | go_size)⟩
          case measure => simp [intOf]
      · have h2f : (x == y) = false := by simpa using h2
        have HN := Lib.hid (HNO.out (by simp [betB, h2]; omega))
        clear h1 h2
        go_wp2
        refine wp_region_later (by kernel_rfl) (by kernel_rfl) (fun hlx => ?_)
        repeat (go_big_quiet_step (fail))
        refine wpQuiet_nil ?_
        clear hlx
        intro w3 hbw3
        obtain ⟨hzw3, hcw3, hfw3⟩ := bfacts hbw3; (try simp at hzw3 hcw3 hfw3); (try (have : w.heap.size < w3.heap.size := by omega)); (try (have : w.heap.size + 1 < w3.heap.size := by omega)); (try (have : w.heap.size + 1 + 1 < w3.heap.size := by omega)); (try (have : w.heap.size + 1 + 1 + 1 < w3.heap.size := by omega))
        go_wp2
        go_roundw
        case rel => exact ⟨2, best, by omega, by go_num, rfl, by omega, HN.out, by have hbr := HBR.out; repeat' (first | (with_reducible exact Below.refl _ _) | (with_reducible assumption) | (with_reducible refine Below.alloc ?_ ?_ _) | (with_reducible refine Below.drew ?_) | (with_reducible refine Below.setCell ?_ ?_ _) | (with_reducible refine Below.stepB (by assumption) ?_ ?_) | go_size)⟩
        case measure => simp [intOf]
    · skip
      have HB := Lib.hid hbb
      clear hbb
      obtain ⟨b3, off3, rfl, hbl3, hbw3', l0⟩ := HS3.out.at (k := a2) hbr ha2
      obtain ⟨b4, off4, hA4, _, _, l1⟩ := HS3.out.at (k := best) hbr hbest
      obtain ⟨rfl, rfl⟩ : b3 = b4 ∧ off3 = off4 := by simpa using hA4
      clear hA4
      have HY := Lib.hid (fun h => bestT_yes (L := L) (t := T j) (k := 2) (i := a2) (b0 := best) HF2.out HB.out h)
      have HNO := Lib.hid (fun h => bestT_no (L := L) (t := T j) (k := 2) (i := a2) (b0 := best) HF2.out HB.out h)
      generalize L a2 = x at l0 HY HNO
      generalize hy : L best = y at l1 HY HNO
      clear hy
      have HBR := Lib.hid hbr
      clear hbr
      by_cases h1 : x < y
      · have HN := Lib.hid (HY.out (by simp [betB, h1]))
        go_wp2
        refine wp_region_later (by kernel_rfl) (by kernel_rfl) (fun hlx => ?_)
        repeat (go_big_quiet_step (fail))
        refine wpQuiet_nil ?_
        clear hlx
        intro w3 hbw3
        obtain ⟨hzw3, hcw3, hfw3⟩ := bfacts hbw3; (try simp at hzw3 hcw3 hfw3); (try (have : w.heap.size < w3.heap.size := by omega)); (try (have : w.heap.size + 1 < w3.heap.size := by omega)); (try (have : w.heap.size + 1 + 1 < w3.heap.size := by omega)); (try (have : w.heap.size + 1 + 1 + 1 < w3.heap.size := by omega))
        go_wp2
        go_roundw
        case rel => exact ⟨3, a2, by omega, by go_num, rfl, by omega, HN.out, by have hbr := HBR.out; repeat' (first | (with_reducible exact Below.refl _ _) | (with_reducible assumption) | (with_reducible refine Below.alloc ?_ ?_ _) | (with_reducible refine Below.drew ?_) | (with_reducible refine Below.setCell ?_ ?_ _) | (with_reducible refine Below.stepB (by assumption) ?_ ?_) | go_size)⟩
        case measure => simp [intOf]
      have h1f : decide (x < y) = false := by simpa using h1
      by_cases h2 : x = y
      · have h2t : (x == y) = true := by simpa using h2
        by_cases h3 : (a2 : Int) < best
        · have HN := Lib.hid (HY.out (by simp [betB, h2, h3]))
          clear h1 h2
          go_wp2
          refine wp_region_later (by kernel_rfl) (by kernel_rfl) (fun hlx => ?_)
          repeat (go_big_quiet_step (fail))
          refine wpQuiet_nil ?_
          clear hlx
          intro w3 hbw3
          obtain ⟨hzw3, hcw3, hfw3⟩ := bfacts hbw3; (try simp at hzw3 hcw3 hfw3); (try (have : w.heap.size < w3.heap.size := by omega)); (try (have : w.heap.size + 1 < w3.heap.size := by omega)); (try (have : w.heap.size + 1 + 1 < w3.heap.size := by omega)); (try (have : w.heap.size + 1 + 1 + 1 < w3.heap.size := by omega))
          go_wp2
          go_roundw
          case rel => exact ⟨3, a2, by omega, by go_num, rfl, by omega, HN.out, by have hbr := HBR.out; repeat' (first | (with_reducible exact Below.refl _ _) | (with_reducible assumption) | (with_reducible refine Below.alloc ?_ ?_ _) | (with_reducible refine Below.drew ?_) | (with_reducible refine Below.setCell ?_ ?_ _) | (with_reducible refine Below.stepB (by assumption) ?_ ?_) | go_size)⟩
          case measure => simp [intOf]
        · have HN := Lib.hid (HNO.out (by simp [betB, h2]; omega))
          have h3f : decide (a2 < best) = false := decide_eq_false (show ¬ a2 < best by omega)
          have h3g : decide ((a2 : Int) < (best : Int)) = false := decide_eq_false (show ¬ (a2 : Int) < (best : Int) by omega)
          clear h1 h2 h3
          go_wp2
          refine wp_region_later (by kernel_rfl) (by kernel_rfl) (fun hlx => ?_)
          repeat (go_big_quiet_step (fail))
          refine wpQuiet_nil ?_
          clear hlx
          intro w3 hbw3
          obtain ⟨hzw3, hcw3, hfw3⟩ := bfacts hbw3; (try simp at hzw3 hcw3 hfw3); (try (have : w.heap.size < w3.heap.size := by omega)); (try (have : w.heap.size + 1 < w3.heap.size := by omega)); (try (have : w.heap.size + 1 + 1 < w3.heap.size := by omega)); (try (have : w.heap.size + 1 + 1 + 1 < w3.heap.size := by omega))
          go_wp2
          go_roundw
          case rel => exact ⟨3, best, by omega, by go_num, rfl, by omega, HN.out, by have hbr := HBR.out; repeat' (first | (with_reducible exact Below.refl _ _) | (with_reducible assumption) | (with_reducible refine Below.alloc ?_ ?_ _) | (with_reducible refine Below.drew ?_) | (with_reducible refine Below.setCell ?_ ?_ _) | (with_reducible refine Below.stepB (by assumption) ?_ ?_) | go_size)⟩
          case measure => simp [intOf]
      · have h2f : (x == y) = false := by simpa using h2
        have HN := Lib.hid (HNO.out (by simp [betB, h2]; omega))
        clear h1 h2
        go_wp2
        refine wp_region_later (by kernel_rfl) (by kernel_rfl) (fun hlx => ?_)
        repeat (go_big_quiet_step (fail))
        refine wpQuiet_nil ?_
        clear hlx
        intro w3 hbw3
        obtain ⟨hzw3, hcw3, hfw3⟩ := bfacts hbw3; (try simp at hzw3 hcw3 hfw3); (try (have : w.heap.size < w3.heap.size := by omega)); (try (have : w.heap.size + 1 < w3.heap.size := by omega)); (try (have : w.heap.size + 1 + 1 < w3.heap.size := by omega)); (try (have : w.heap.size + 1 + 1 + 1 < w3.heap.size := by omega))
        go_wp2
        go_roundw
        case rel => exact ⟨3, best, by omega, by go_num, rfl, by omega, HN.out, by have hbr := HBR.out; repeat' (first | (with_reducible exact Below.refl _ _) | (with_reducible assumption) | (with_reducible refine Below.alloc ?_ ?_ _) | (with_reducible refine Below.drew ?_) | (with_reducible refine Below.setCell ?_ ?_ _) | (with_reducible refine Below.stepB (by assumption) ?_ ?_) | go_size)⟩
        case measure => simp [intOf]
    · have HN : Hid ((best : Int) = o) := by show _ = _; rw [HO2.out]; exact hbb
      clear hbb
      go_wp2
      go_ret2
      exact ⟨by rw [HN.out, HV.out] <;> rfl, by repeat' (first | (with_reducible exact Below.refl _ _) | (with_reducible assumption) | (with_reducible refine Below.alloc ?_ ?_ _) | (with_reducible refine Below.drew ?_) | (with_reducible refine Below.setCell ?_ ?_ _) | (with_reducible refine Below.stepB (by assumption) ?_ ?_) | go_size)⟩
theorem Shoalest_at (A : Option Addr) (n : Nat) (S : Nat → SP) (A2 : Option Addr) (m : Nat) (T : Nat → Nat → Int) (A3 : Option Addr) (d c3 : Nat) (L : Nat → Int) (t : Int) (w : World) (hS : SlSP w A n S) (hS2 : SlT w A2 m T) (hS3 : SlI w A3 d L) (hn : n ≤ 1048576) (hm : m ≤ 1048576) (hd : d ≤ 1048576) :
    Calls Try.prog 43 #[.slice A n n, .slice A2 m m, .slice A3 d c3, .int .i64 t] w fun e w' => e = .returned (.tuple #[.int .i64 (shoO S n T m L d t), .bool (shoB S n T m L d t)]) ∧ Below w.heap.size w w' := Shoalest_any A n n S A2 m m T A3 d c3 L t w hS hS2 hS3 hn hm hd (Nat.le_refl _) (Nat.le_refl _)
end Go.Proofs.Ytfflbkmncnaffaa
