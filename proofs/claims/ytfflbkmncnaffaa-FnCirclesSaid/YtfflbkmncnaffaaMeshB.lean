/- Contracts of the program's function that tells whether an edge parts two triangles. -/
import Derived.Test.YtfflbkmncnaffaaMeshA
namespace Go.Proofs.Ytfflbkmncnaffaa
open Go.RowKit
def sep3 (s0 s1 s2 : Int) : Nat → Bool
  | 0 => true
  | 1 => decide (s0 ≤ 0)
  | 2 => decide (s0 ≤ 0) && decide (s1 ≤ 0)
  | _ => decide (s0 ≤ 0) && decide (s1 ≤ 0) && decide (s2 ≤ 0)
theorem sep3_all (s0 s1 s2 : Int) : (decide (s0 ≤ 0) && (decide (s1 ≤ 0) && decide (s2 ≤ 0))) = sep3 s0 s1 s2 3 := by simp [sep3, Bool.and_assoc]
set_option maxHeartbeats 4000000 in
theorem parts_any (a0 a1 a2 b0 b1 b2 : SP) (w : World) (ha0 : spB a0 = true) (ha1 : spB a1 = true) (ha2 : spB a2 = true) (hb0 : spB b0 = true) (hb1 : spB b1 = true) (hb2 : spB b2 = true) :
    Calls Try.prog 87 #[.agg #[.int .i64 a0.x, .int .i64 a0.y, .int .i64 a1.x, .int .i64 a1.y, .int .i64 a2.x, .int .i64 a2.y], .agg #[.int .i64 b0.x, .int .i64 b0.y, .int .i64 b1.x, .int .i64 b1.y, .int .i64 b2.x, .int .i64 b2.y]] w
    fun e w' => e = .returned (.bool (partsT a0 a1 a2 b0 b1 b2)) ∧ Below w.heap.size w w' := by
  have x00 := fun W => crossOf_any a0.x a0.y a1.x a1.y b0.x b0.y W ha0 ha1 hb0
  have x01 := fun W => crossOf_any a0.x a0.y a1.x a1.y b1.x b1.y W ha0 ha1 hb1
  have x02 := fun W => crossOf_any a0.x a0.y a1.x a1.y b2.x b2.y W ha0 ha1 hb2
  have x10 := fun W => crossOf_any a1.x a1.y a2.x a2.y b0.x b0.y W ha1 ha2 hb0
  have x11 := fun W => crossOf_any a1.x a1.y a2.x a2.y b1.x b1.y W ha1 ha2 hb1
  have x12 := fun W => crossOf_any a1.x a1.y a2.x a2.y b2.x b2.y W ha1 ha2 hb2
  have x20 := fun W => crossOf_any a2.x a2.y a0.x a0.y b0.x b0.y W ha2 ha0 hb0
  have x21 := fun W => crossOf_any a2.x a2.y a0.x a0.y b1.x b1.y W ha2 ha0 hb1
  have x22 := fun W => crossOf_any a2.x a2.y a0.x a0.y b2.x b2.y W ha2 ha0 hb2
  have hi : partsT a0 a1 a2 b0 b1 b2 = ((decide (crD a0.x a0.y a1.x a1.y b0.x b0.y ≤ 0) && (decide (crD a0.x a0.y a1.x a1.y b1.x b1.y ≤ 0) && decide (crD a0.x a0.y a1.x a1.y b2.x b2.y ≤ 0))) || ((decide (crD a1.x a1.y a2.x a2.y b0.x b0.y ≤ 0) && (decide (crD a1.x a1.y a2.x a2.y b1.x b1.y ≤ 0) && decide (crD a1.x a1.y a2.x a2.y b2.x b2.y ≤ 0))) || (decide (crD a2.x a2.y a0.x a0.y b0.x b0.y ≤ 0) && (decide (crD a2.x a2.y a0.x a0.y b1.x b1.y ≤ 0) && decide (crD a2.x a2.y a0.x a0.y b2.x b2.y ≤ 0))))) := rfl
  generalize partsT a0 a1 a2 b0 b1 b2 = res at hi ⊢
  generalize crD a0.x a0.y a1.x a1.y b0.x b0.y = s00 at x00 hi
  generalize crD a0.x a0.y a1.x a1.y b1.x b1.y = s01 at x01 hi
  generalize crD a0.x a0.y a1.x a1.y b2.x b2.y = s02 at x02 hi
  generalize crD a1.x a1.y a2.x a2.y b0.x b0.y = s10 at x10 hi
  generalize crD a1.x a1.y a2.x a2.y b1.x b1.y = s11 at x11 hi
  generalize crD a1.x a1.y a2.x a2.y b2.x b2.y = s12 at x12 hi
  generalize crD a2.x a2.y a0.x a0.y b0.x b0.y = s20 at x20 hi
  generalize crD a2.x a2.y a0.x a0.y b1.x b1.y = s21 at x21 hi
  generalize crD a2.x a2.y a0.x a0.y b2.x b2.y = s22 at x22 hi
  rw [sep3_all, sep3_all, sep3_all] at hi
  have X00 := Lib.hid x00
  have X01 := Lib.hid x01
  have X02 := Lib.hid x02
  have X10 := Lib.hid x10
  have X11 := Lib.hid x11
  have X12 := Lib.hid x12
  have X20 := Lib.hid x20
  have X21 := Lib.hid x21
  have X22 := Lib.hid x22
  have HI := Lib.hid hi
  clear hi x00 x01 x02 x10 x11 x12 x20 x21 x22 ha0 ha1 ha2 hb0 hb1 hb2
  have i0 : ∀ w, (Instr.index 95 (.agg #[.int .i64 b0.x, .int .i64 b0.y, .int .i64 b1.x, .int .i64 b1.y, .int .i64 b2.x, .int .i64 b2.y]) (.int .i64 0)).run Try.prog w = .ok (.agg #[.int .i64 b0.x, .int .i64 b0.y]) w := fun _ => by kernel_rfl
  have i1 : ∀ w, (Instr.index 95 (.agg #[.int .i64 b0.x, .int .i64 b0.y, .int .i64 b1.x, .int .i64 b1.y, .int .i64 b2.x, .int .i64 b2.y]) (.int .i64 1)).run Try.prog w = .ok (.agg #[.int .i64 b1.x, .int .i64 b1.y]) w := fun _ => by kernel_rfl
  have i2 : ∀ w, (Instr.index 95 (.agg #[.int .i64 b0.x, .int .i64 b0.y, .int .i64 b1.x, .int .i64 b1.y, .int .i64 b2.x, .int .i64 b2.y]) (.int .i64 2)).run Try.prog w = .ok (.agg #[.int .i64 b2.x, .int .i64 b2.y]) w := fun _ => by kernel_rfl
  go_enter Try.func87, Try.ntmps87
  go_wp2
  go_loopw [9] (fun v9 wr => ∃ k : Nat, k ≤ 3 ∧ v9 = .int .i64 k ∧ (0 < k → sep3 s00 s01 s02 3 = false) ∧ (1 < k → sep3 s10 s11 s12 3 = false) ∧ (2 < k → sep3 s20 s21 s22 3 = false) ∧ Blk wr w.heap.size 95 #[.int .i64 a0.x, .int .i64 a0.y, .int .i64 a1.x, .int .i64 a1.y, .int .i64 a2.x, .int .i64 a2.y] ∧ Blk wr (w.heap.size + 1) 95 #[.int .i64 b0.x, .int .i64 b0.y, .int .i64 b1.x, .int .i64 b1.y, .int .i64 b2.x, .int .i64 b2.y] ∧ Below w.heap.size w wr) (fun v9 _ => 3 - (intOf v9).toNat)
  case atStart => exact ⟨0, by omega, rfl, fun h => absurd h (by omega), fun h => absurd h (by omega), fun h => absurd h (by omega), (blk_newP w _ _ rfl).alloc _, blk_newP _ _ _ (by simp), by repeat' (first | (with_reducible exact Below.refl _ _) | (with_reducible assumption) | (with_reducible refine Below.alloc ?_ ?_ _) | (with_reducible refine Below.drew ?_) | (with_reducible refine Below.setCell ?_ ?_ _) | (with_reducible refine Below.stepB (by assumption) ?_ ?_) | go_size)⟩
  case round =>
    obtain ⟨k, hk, rfl, g1, g2, g3, hA, hB, hbr⟩ := hrel
    have hzr := hbr.size
    have hlA := hA.lt
    have hlB := hB.lt
    have HG := Lib.hid (And.intro g1 (And.intro g2 g3))
    have HA := Lib.hid hA
    have HB := Lib.hid hB
    have HBR := Lib.hid hbr
    have e0 : wr.cell? ⟨w.heap.size + 1, 0, none⟩ = some (.int .i64 b0.x) := hB.cell 0
    have e1 : wr.cell? ⟨w.heap.size + 1, 1, none⟩ = some (.int .i64 b0.y) := hB.cell 1
    have e2 : wr.cell? ⟨w.heap.size + 1, 2, none⟩ = some (.int .i64 b1.x) := hB.cell 2
    have e3 : wr.cell? ⟨w.heap.size + 1, 3, none⟩ = some (.int .i64 b1.y) := hB.cell 3
    have e4 : wr.cell? ⟨w.heap.size + 1, 4, none⟩ = some (.int .i64 b2.x) := hB.cell 4
    have e5 : wr.cell? ⟨w.heap.size + 1, 5, none⟩ = some (.int .i64 b2.y) := hB.cell 5
    clear g1 g2 g3 hA hB hbr
    obtain rfl | rfl | rfl | rfl : k = 0 ∨ k = 1 ∨ k = 2 ∨ k = 3 := by omega
    · go_wp2
      clear e0 e1 e2 e3 e4 e5
      go_loopw [6, 13] (fun v6 v13 wq => ∃ j : Nat, j ≤ 3 ∧ v13 = .int .i64 j ∧ v6 = .bool (sep3 s00 s01 s02 j) ∧ Below wr.heap.size wr wq) (fun _ v13 _ => 3 - (intOf v13).toNat)
      case atStart => exact ⟨0, by omega, rfl, rfl, Below.refl _ _⟩
      case round =>
        rename World => wq
        obtain ⟨j, hj, rfl, rfl, hbq⟩ := hrel
        have hzq := hbq.size
        have hA := HA.out.below hbq hlA
        have hB := HB.out.below hbq hlB
        have hlA2 := hA.lt
        have hlB2 := hB.lt
        have HA2 := Lib.hid hA
        have HB2 := Lib.hid hB
        have c0 : wq.cell? ⟨w.heap.size, 0, none⟩ = some (.int .i64 a0.x) := hA.cell 0
        have c1 : wq.cell? ⟨w.heap.size, 1, none⟩ = some (.int .i64 a0.y) := hA.cell 1
        have c2 : wq.cell? ⟨w.heap.size, 2, none⟩ = some (.int .i64 a1.x) := hA.cell 2
        have c3 : wq.cell? ⟨w.heap.size, 3, none⟩ = some (.int .i64 a1.y) := hA.cell 3
        have c4 : wq.cell? ⟨w.heap.size, 4, none⟩ = some (.int .i64 a2.x) := hA.cell 4
        have c5 : wq.cell? ⟨w.heap.size, 5, none⟩ = some (.int .i64 a2.y) := hA.cell 5
        clear hA hB
        have hbw : Below w.heap.size w wq := HBR.out.trans (hbq.mono (by omega))
        have HBW := Lib.hid hbw
        clear hbw
        obtain rfl | rfl | rfl | rfl : j = 0 ∨ j = 1 ∨ j = 2 ∨ j = 3 := by omega
        · generalize hf : sep3 s00 s01 s02 0 = fl
          have HF := Lib.hid hf
          clear hf
          cases fl
          · have HN : Hid (sep3 s00 s01 s02 1 = false) := by
              show _ = _
              have := HF.out
              revert this
              simp only [sep3]
              intro this
              first | (cases this; done) | simp [this]
            go_wp2
            refine wp_region_later (by kernel_rfl) (by kernel_rfl) (fun hlx => ?_)
            repeat (go_big_quiet_step (fail))
            refine wpQuiet_nil ?_
            clear hlx
            intro w3 hbw3
            obtain ⟨hzw3, hcw3, hfw3⟩ := bfacts hbw3; (try simp at hzw3 hcw3 hfw3); (try (have : w.heap.size < w3.heap.size := by omega)); (try (have : w.heap.size + 1 < w3.heap.size := by omega)); (try (have : w.heap.size + 1 + 1 < w3.heap.size := by omega)); (try (have : w.heap.size + 1 + 1 + 1 < w3.heap.size := by omega))
            go_wp2
            go_roundw
            case rel => exact ⟨1, by omega, by go_num, by rw [HN.out], by repeat' (first | (with_reducible exact Below.refl _ _) | (with_reducible assumption) | (with_reducible refine Below.alloc ?_ ?_ _) | (with_reducible refine Below.drew ?_) | (with_reducible refine Below.setCell ?_ ?_ _) | (with_reducible refine Below.stepB (by assumption) ?_ ?_) | go_size)⟩
            case measure => simp [intOf]
          · have HN : Hid (sep3 s00 s01 s02 1 = decide (s00 ≤ 0)) := by
              show _ = _
              rfl
            go_wp2
            refine wp_region_later (by kernel_rfl) (by kernel_rfl) (fun hlx => ?_)
            repeat (go_big_quiet_step ((go_at_call 68; exact Later.call (X00.out _))))
            refine wpQuiet_nil ?_
            clear hlx
            intro w3 hbw3
            obtain ⟨hzw3, hcw3, hfw3⟩ := bfacts hbw3; (try simp at hzw3 hcw3 hfw3); (try (have : w.heap.size < w3.heap.size := by omega)); (try (have : w.heap.size + 1 < w3.heap.size := by omega)); (try (have : w.heap.size + 1 + 1 < w3.heap.size := by omega)); (try (have : w.heap.size + 1 + 1 + 1 < w3.heap.size := by omega))
            go_wp2
            go_roundw
            case rel => exact ⟨1, by omega, by go_num, by rw [HN.out], by repeat' (first | (with_reducible exact Below.refl _ _) | (with_reducible assumption) | (with_reducible refine Below.alloc ?_ ?_ _) | (with_reducible refine Below.drew ?_) | (with_reducible refine Below.setCell ?_ ?_ _) | (with_reducible refine Below.stepB (by assumption) ?_ ?_) | go_size)⟩
            case measure => simp [intOf]
        · generalize hf : sep3 s00 s01 s02 1 = fl
          have HF := Lib.hid hf
          clear hf
          cases fl
          · have HN : Hid (sep3 s00 s01 s02 2 = false) := by
              show _ = _
              have := HF.out
              revert this
              simp only [sep3]
              intro this
              first | (cases this; done) | simp [this]
            go_wp2
            refine wp_region_later (by kernel_rfl) (by kernel_rfl) (fun hlx => ?_)
            repeat (go_big_quiet_step (fail))
            refine wpQuiet_nil ?_
            clear hlx
            intro w3 hbw3
            obtain ⟨hzw3, hcw3, hfw3⟩ := bfacts hbw3; (try simp at hzw3 hcw3 hfw3); (try (have : w.heap.size < w3.heap.size := by omega)); (try (have : w.heap.size + 1 < w3.heap.size := by omega)); (try (have : w.heap.size + 1 + 1 < w3.heap.size := by omega)); (try (have : w.heap.size + 1 + 1 + 1 < w3.heap.size := by omega))
            go_wp2
            go_roundw
            case rel => exact ⟨2, by omega, by go_num, by rw [HN.out], by repeat' (first | (with_reducible exact Below.refl _ _) | (with_reducible assumption) | (with_reducible refine Below.alloc ?_ ?_ _) | (with_reducible refine Below.drew ?_) | (with_reducible refine Below.setCell ?_ ?_ _) | (with_reducible refine Below.stepB (by assumption) ?_ ?_) | go_size)⟩
            case measure => simp [intOf]
          · have HN : Hid (sep3 s00 s01 s02 2 = decide (s01 ≤ 0)) := by
              show _ = _
              have := HF.out
              revert this
              simp only [sep3]
              intro this
              first | rfl | (simp only [this, Bool.true_and]; done)
            go_wp2
            refine wp_region_later (by kernel_rfl) (by kernel_rfl) (fun hlx => ?_)
            repeat (go_big_quiet_step ((go_at_call 68; exact Later.call (X01.out _))))
            refine wpQuiet_nil ?_
            clear hlx
            intro w3 hbw3
            obtain ⟨hzw3, hcw3, hfw3⟩ := bfacts hbw3; (try simp at hzw3 hcw3 hfw3); (try (have : w.heap.size < w3.heap.size := by omega)); (try (have : w.heap.size + 1 < w3.heap.size := by omega)); (try (have : w.heap.size + 1 + 1 < w3.heap.size := by omega)); (try (have : w.heap.size + 1 + 1 + 1 < w3.heap.size := by omega))
            go_wp2
            go_roundw
            case rel => exact ⟨2, by omega, by go_num, by rw [HN.out], by repeat' (first | (with_reducible exact Below.refl _ _) | (with_reducible assumption) | (with_reducible refine Below.alloc ?_ ?_ _) | (with_reducible refine Below.drew ?_) | (with_reducible refine Below.setCell ?_ ?_ _) | (with_reducible refine Below.stepB (by assumption) ?_ ?_) | go_size)⟩
            case measure => simp [intOf]
        · generalize hf : sep3 s00 s01 s02 2 = fl
          have HF := Lib.hid hf
          clear hf
          cases fl
          · have HN : Hid (sep3 s00 s01 s02 3 = false) := by
              show _ = _
              have := HF.out
              revert this
              simp only [sep3]
              intro this
              first | (cases this; done) | simp [this]
            go_wp2
            refine wp_region_later (by kernel_rfl) (by kernel_rfl) (fun hlx => ?_)
            repeat (go_big_quiet_step (fail))
            refine wpQuiet_nil ?_
            clear hlx
            intro w3 hbw3
            obtain ⟨hzw3, hcw3, hfw3⟩ := bfacts hbw3; (try simp at hzw3 hcw3 hfw3); (try (have : w.heap.size < w3.heap.size := by omega)); (try (have : w.heap.size + 1 < w3.heap.size := by omega)); (try (have : w.heap.size + 1 + 1 < w3.heap.size := by omega)); (try (have : w.heap.size + 1 + 1 + 1 < w3.heap.size := by omega))
            go_wp2
            go_roundw
            case rel => exact ⟨3, by omega, by go_num, by rw [HN.out], by repeat' (first | (with_reducible exact Below.refl _ _) | (with_reducible assumption) | (with_reducible refine Below.alloc ?_ ?_ _) | (with_reducible refine Below.drew ?_) | (with_reducible refine Below.setCell ?_ ?_ _) | (with_reducible refine Below.stepB (by assumption) ?_ ?_) | go_size)⟩
            case measure => simp [intOf]
          · have HN : Hid (sep3 s00 s01 s02 3 = decide (s02 ≤ 0)) := by
              show _ = _
              have := HF.out
              revert this
              simp only [sep3]
              intro this
              first | rfl | (simp only [this, Bool.true_and]; done)
            go_wp2
            refine wp_region_later (by kernel_rfl) (by kernel_rfl) (fun hlx => ?_)
            repeat (go_big_quiet_step ((go_at_call 68; exact Later.call (X02.out _))))
            refine wpQuiet_nil ?_
            clear hlx
            intro w3 hbw3
            obtain ⟨hzw3, hcw3, hfw3⟩ := bfacts hbw3; (try simp at hzw3 hcw3 hfw3); (try (have : w.heap.size < w3.heap.size := by omega)); (try (have : w.heap.size + 1 < w3.heap.size := by omega)); (try (have : w.heap.size + 1 + 1 < w3.heap.size := by omega)); (try (have : w.heap.size + 1 + 1 + 1 < w3.heap.size := by omega))
            go_wp2
            go_roundw
            case rel => exact ⟨3, by omega, by go_num, by rw [HN.out], by repeat' (first | (with_reducible exact Below.refl _ _) | (with_reducible assumption) | (with_reducible refine Below.alloc ?_ ?_ _) | (with_reducible refine Below.drew ?_) | (with_reducible refine Below.setCell ?_ ?_ _) | (with_reducible refine Below.stepB (by assumption) ?_ ?_) | go_size)⟩
            case measure => simp [intOf]
        · generalize hf : sep3 s00 s01 s02 3 = fl
          have HF := Lib.hid hf
          clear hf c0 c1 c2 c3 c4 c5
          have hbw := HBW.out
          cases fl
          · clear hbq
            go_wp2
            go_roundw
            case rel => exact ⟨1, by omega, by go_num, fun _ => HF.out, fun h => absurd h (by omega), fun h => absurd h (by omega), HA2.out, HB2.out, hbw⟩
            case measure => simp [intOf]
          · have HR : Hid (true = res) := by
              show _ = _
              rw [HI.out, HF.out]
              simp
            clear hbq
            go_wp2
            go_ret
            exact ⟨ret_bool HR.out, hbw⟩
    · go_wp2
      clear e0 e1 e2 e3 e4 e5
      go_loopw [6, 13] (fun v6 v13 wq => ∃ j : Nat, j ≤ 3 ∧ v13 = .int .i64 j ∧ v6 = .bool (sep3 s10 s11 s12 j) ∧ Below wr.heap.size wr wq) (fun _ v13 _ => 3 - (intOf v13).toNat)
      case atStart => exact ⟨0, by omega, rfl, rfl, Below.refl _ _⟩
      case round =>
        rename World => wq
        obtain ⟨j, hj, rfl, rfl, hbq⟩ := hrel
        have hzq := hbq.size
        have hA := HA.out.below hbq hlA
        have hB := HB.out.below hbq hlB
        have hlA2 := hA.lt
        have hlB2 := hB.lt
        have HA2 := Lib.hid hA
        have HB2 := Lib.hid hB
        have c0 : wq.cell? ⟨w.heap.size, 0, none⟩ = some (.int .i64 a0.x) := hA.cell 0
        have c1 : wq.cell? ⟨w.heap.size, 1, none⟩ = some (.int .i64 a0.y) := hA.cell 1
        have c2 : wq.cell? ⟨w.heap.size, 2, none⟩ = some (.int .i64 a1.x) := hA.cell 2
        have c3 : wq.cell? ⟨w.heap.size, 3, none⟩ = some (.int .i64 a1.y) := hA.cell 3
        have c4 : wq.cell? ⟨w.heap.size, 4, none⟩ = some (.int .i64 a2.x) := hA.cell 4
        have c5 : wq.cell? ⟨w.heap.size, 5, none⟩ = some (.int .i64 a2.y) := hA.cell 5
        clear hA hB
        have hbw : Below w.heap.size w wq := HBR.out.trans (hbq.mono (by omega))
        have HBW := Lib.hid hbw
        clear hbw
        obtain rfl | rfl | rfl | rfl : j = 0 ∨ j = 1 ∨ j = 2 ∨ j = 3 := by omega
        · generalize hf : sep3 s10 s11 s12 0 = fl
          have HF := Lib.hid hf
          clear hf
          cases fl
          · have HN : Hid (sep3 s10 s11 s12 1 = false) := by
              show _ = _
              have := HF.out
              revert this
              simp only [sep3]
              intro this
              first | (cases this; done) | simp [this]
            go_wp2
            refine wp_region_later (by kernel_rfl) (by kernel_rfl) (fun hlx => ?_)
            repeat (go_big_quiet_step (fail))
            refine wpQuiet_nil ?_
            clear hlx
            intro w3 hbw3
            obtain ⟨hzw3, hcw3, hfw3⟩ := bfacts hbw3; (try simp at hzw3 hcw3 hfw3); (try (have : w.heap.size < w3.heap.size := by omega)); (try (have : w.heap.size + 1 < w3.heap.size := by omega)); (try (have : w.heap.size + 1 + 1 < w3.heap.size := by omega)); (try (have : w.heap.size + 1 + 1 + 1 < w3.heap.size := by omega))
            go_wp2
            go_roundw
            case rel => exact ⟨1, by omega, by go_num, by rw [HN.out], by repeat' (first | (with_reducible exact Below.refl _ _) | (with_reducible assumption) | (with_reducible refine Below.alloc ?_ ?_ _) | (with_reducible refine Below.drew ?_) | (with_reducible refine Below.setCell ?_ ?_ _) | (with_reducible refine Below.stepB (by assumption) ?_ ?_) | go_size)⟩
            case measure => simp [intOf]
          · have HN : Hid (sep3 s10 s11 s12 1 = decide (s10 ≤ 0)) := by
              show _ = _
              rfl
            go_wp2
            refine wp_region_later (by kernel_rfl) (by kernel_rfl) (fun hlx => ?_)
            repeat (go_big_quiet_step ((go_at_call 68; exact Later.call (X10.out _))))
            refine wpQuiet_nil ?_
            clear hlx
            intro w3 hbw3
            obtain ⟨hzw3, hcw3, hfw3⟩ := bfacts hbw3; (try simp at hzw3 hcw3 hfw3); (try (have : w.heap.size < w3.heap.size := by omega)); (try (have : w.heap.size + 1 < w3.heap.size := by omega)); (try (have : w.heap.size + 1 + 1 < w3.heap.size := by omega)); (try (have : w.heap.size + 1 + 1 + 1 < w3.heap.size := by omega))
            go_wp2
            go_roundw
            case rel => exact ⟨1, by omega, by go_num, by rw [HN.out], by repeat' (first | (with_reducible exact Below.refl _ _) | (with_reducible assumption) | (with_reducible refine Below.alloc ?_ ?_ _) | (with_reducible refine Below.drew ?_) | (with_reducible refine Below.setCell ?_ ?_ _) | (with_reducible refine Below.stepB (by assumption) ?_ ?_) | go_size)⟩
            case measure => simp [intOf]
        · generalize hf : sep3 s10 s11 s12 1 = fl
          have HF := Lib.hid hf
          clear hf
          cases fl
          · have HN : Hid (sep3 s10 s11 s12 2 = false) := by
              show _ = _
              have := HF.out
              revert this
              simp only [sep3]
              intro this
              first | (cases this; done) | simp [this]
            go_wp2
            refine wp_region_later (by kernel_rfl) (by kernel_rfl) (fun hlx => ?_)
            repeat (go_big_quiet_step (fail))
            refine wpQuiet_nil ?_
            clear hlx
            intro w3 hbw3
            obtain ⟨hzw3, hcw3, hfw3⟩ := bfacts hbw3; (try simp at hzw3 hcw3 hfw3); (try (have : w.heap.size < w3.heap.size := by omega)); (try (have : w.heap.size + 1 < w3.heap.size := by omega)); (try (have : w.heap.size + 1 + 1 < w3.heap.size := by omega)); (try (have : w.heap.size + 1 + 1 + 1 < w3.heap.size := by omega))
            go_wp2
            go_roundw
            case rel => exact ⟨2, by omega, by go_num, by rw [HN.out], by repeat' (first | (with_reducible exact Below.refl _ _) | (with_reducible assumption) | (with_reducible refine Below.alloc ?_ ?_ _) | (with_reducible refine Below.drew ?_) | (with_reducible refine Below.setCell ?_ ?_ _) | (with_reducible refine Below.stepB (by assumption) ?_ ?_) | go_size)⟩
            case measure => simp [intOf]
          · have HN : Hid (sep3 s10 s11 s12 2 = decide (s11 ≤ 0)) := by
              show _ = _
              have := HF.out
              revert this
              simp only [sep3]
              intro this
              first | rfl | (simp only [this, Bool.true_and]; done)
            go_wp2
            refine wp_region_later (by kernel_rfl) (by kernel_rfl) (fun hlx => ?_)
            repeat (go_big_quiet_step ((go_at_call 68; exact Later.call (X11.out _))))
            refine wpQuiet_nil ?_
            clear hlx
            intro w3 hbw3
            obtain ⟨hzw3, hcw3, hfw3⟩ := bfacts hbw3; (try simp at hzw3 hcw3 hfw3); (try (have : w.heap.size < w3.heap.size := by omega)); (try (have : w.heap.size + 1 < w3.heap.size := by omega)); (try (have : w.heap.size + 1 + 1 < w3.heap.size := by omega)); (try (have : w.heap.size + 1 + 1 + 1 < w3.heap.size := by omega))
            go_wp2
            go_roundw
            case rel => exact ⟨2, by omega, by go_num, by rw [HN.out], by repeat' (first | (with_reducible exact Below.refl _ _) | (with_reducible assumption) | (with_reducible refine Below.alloc ?_ ?_ _) | (with_reducible refine Below.drew ?_) | (with_reducible refine Below.setCell ?_ ?_ _) | (with_reducible refine Below.stepB (by assumption) ?_ ?_) | go_size)⟩
            case measure => simp [intOf]
        · generalize hf : sep3 s10 s11 s12 2 = fl
          have HF := Lib.hid hf
          clear hf
          cases fl
          · have HN : Hid (sep3 s10 s11 s12 3 = false) := by
              show _ = _
              have := HF.out
              revert this
              simp only [sep3]
              intro this
              first | (cases this; done) | simp [this]
            go_wp2
            refine wp_region_later (by kernel_rfl) (by kernel_rfl) (fun hlx => ?_)
            repeat (go_big_quiet_step (fail))
            refine wpQuiet_nil ?_
            clear hlx
            intro w3 hbw3
            obtain ⟨hzw3, hcw3, hfw3⟩ := bfacts hbw3; (try simp at hzw3 hcw3 hfw3); (try (have : w.heap.size < w3.heap.size := by omega)); (try (have : w.heap.size + 1 < w3.heap.size := by omega)); (try (have : w.heap.size + 1 + 1 < w3.heap.size := by omega)); (try (have : w.heap.size + 1 + 1 + 1 < w3.heap.size := by omega))
            go_wp2
            go_roundw
            case rel => exact ⟨3, by omega, by go_num, by rw [HN.out], by repeat' (first | (with_reducible exact Below.refl _ _) | (with_reducible assumption) | (with_reducible refine Below.alloc ?_ ?_ _) | (with_reducible refine Below.drew ?_) | (with_reducible refine Below.setCell ?_ ?_ _) | (with_reducible refine Below.stepB (by assumption) ?_ ?_) | go_size)⟩
            case measure => simp [intOf]
          · have HN : Hid (sep3 s10 s11 s12 3 = decide (s12 ≤ 0)) := by
              show _ = _
              have := HF.out
              revert this
              simp only [sep3]
              intro this
              first | rfl | (simp only [this, Bool.true_and]; done)
            go_wp2
            refine wp_region_later (by kernel_rfl) (by kernel_rfl) (fun hlx => ?_)
            repeat (go_big_quiet_step ((go_at_call 68; exact Later.call (X12.out _))))
            refine wpQuiet_nil ?_
            clear hlx
            intro w3 hbw3
            obtain ⟨hzw3, hcw3, hfw3⟩ := bfacts hbw3; (try simp at hzw3 hcw3 hfw3); (try (have : w.heap.size < w3.heap.size := by omega)); (try (have : w.heap.size + 1 < w3.heap.size := by omega)); (try (have : w.heap.size + 1 + 1 < w3.heap.size := by omega)); (try (have : w.heap.size + 1 + 1 + 1 < w3.heap.size := by omega))
            go_wp2
            go_roundw
            case rel => exact ⟨3, by omega, by go_num, by rw [HN.out], by repeat' (first | (with_reducible exact Below.refl _ _) | (with_reducible assumption) | (with_reducible refine Below.alloc ?_ ?_ _) | (with_reducible refine Below.drew ?_) | (with_reducible refine Below.setCell ?_ ?_ _) | (with_reducible refine Below.stepB (by assumption) ?_ ?_) | go_size)⟩
            case measure => simp [intOf]
        · generalize hf : sep3 s10 s11 s12 3 = fl
          have HF := Lib.hid hf
          clear hf c0 c1 c2 c3 c4 c5
          have hbw := HBW.out
          cases fl
          · clear hbq
            go_wp2
            go_roundw
            case rel => exact ⟨2, by omega, by go_num, fun _ => HG.out.1 (by omega), fun _ => HF.out, fun h => absurd h (by omega), HA2.out, HB2.out, hbw⟩
            case measure => simp [intOf]
          · have HR : Hid (true = res) := by
              show _ = _
              rw [HI.out, HF.out]
              simp
            clear hbq
            go_wp2
            go_ret
            exact ⟨ret_bool HR.out, hbw⟩
    · go_wp2
      clear e0 e1 e2 e3 e4 e5
      go_loopw [6, 13] (fun v6 v13 wq => ∃ j : Nat, j ≤ 3 ∧ v13 = .int .i64 j ∧ v6 = .bool (sep3 s20 s21 s22 j) ∧ Below wr.heap.size wr wq) (fun _ v13 _ => 3 - (intOf v13).toNat)
      case atStart => exact ⟨0, by omega, rfl, rfl, Below.refl _ _⟩
      case round =>
        rename World => wq
        obtain ⟨j, hj, rfl, rfl, hbq⟩ := hrel
        have hzq := hbq.size
        have hA := HA.out.below hbq hlA
        have hB := HB.out.below hbq hlB
        have hlA2 := hA.lt
        have hlB2 := hB.lt
        have HA2 := Lib.hid hA
        have HB2 := Lib.hid hB
        have c0 : wq.cell? ⟨w.heap.size, 0, none⟩ = some (.int .i64 a0.x) := hA.cell 0
        have c1 : wq.cell? ⟨w.heap.size, 1, none⟩ = some (.int .i64 a0.y) := hA.cell 1
        have c2 : wq.cell? ⟨w.heap.size, 2, none⟩ = some (.int .i64 a1.x) := hA.cell 2
        have c3 : wq.cell? ⟨w.heap.size, 3, none⟩ = some (.int .i64 a1.y) := hA.cell 3
        have c4 : wq.cell? ⟨w.heap.size, 4, none⟩ = some (.int .i64 a2.x) := hA.cell 4
        have c5 : wq.cell? ⟨w.heap.size, 5, none⟩ = some (.int .i64 a2.y) := hA.cell 5
        clear hA hB
        have hbw : Below w.heap.size w wq := HBR.out.trans (hbq.mono (by omega))
        have HBW := Lib.hid hbw
        clear hbw
        obtain rfl | rfl | rfl | rfl : j = 0 ∨ j = 1 ∨ j = 2 ∨ j = 3 := by omega
        · generalize hf : sep3 s20 s21 s22 0 = fl
          have HF := Lib.hid hf
          clear hf
          cases fl
          · have HN : Hid (sep3 s20 s21 s22 1 = false) := by
              show _ = _
              have := HF.out
              revert this
              simp only [sep3]
              intro this
              first | (cases this; done) | simp [this]
            go_wp2
            refine wp_region_later (by kernel_rfl) (by kernel_rfl) (fun hlx => ?_)
            repeat (go_big_quiet_step (fail))
            refine wpQuiet_nil ?_
            clear hlx
            intro w3 hbw3
            obtain ⟨hzw3, hcw3, hfw3⟩ := bfacts hbw3; (try simp at hzw3 hcw3 hfw3); (try (have : w.heap.size < w3.heap.size := by omega)); (try (have : w.heap.size + 1 < w3.heap.size := by omega)); (try (have : w.heap.size + 1 + 1 < w3.heap.size := by omega)); (try (have : w.heap.size + 1 + 1 + 1 < w3.heap.size := by omega))
            go_wp2
            go_roundw
            case rel => exact ⟨1, by omega, by go_num, by rw [HN.out], by repeat' (first | (with_reducible exact Below.refl _ _) | (with_reducible assumption) | (with_reducible refine Below.alloc ?_ ?_ _) | (with_reducible refine Below.drew ?_) | (with_reducible refine Below.setCell ?_ ?_ _) | (with_reducible refine Below.stepB (by assumption) ?_ ?_) | go_size)⟩
            case measure => simp [intOf]
          · have HN : Hid (sep3 s20 s21 s22 1 = decide (s20 ≤ 0)) := by
              show _ = _
              rfl
            go_wp2
            refine wp_region_later (by kernel_rfl) (by kernel_rfl) (fun hlx => ?_)
            repeat (go_big_quiet_step ((go_at_call 68; exact Later.call (X20.out _))))
            refine wpQuiet_nil ?_
            clear hlx
            intro w3 hbw3
            obtain ⟨hzw3, hcw3, hfw3⟩ := bfacts hbw3; (try simp at hzw3 hcw3 hfw3); (try (have : w.heap.size < w3.heap.size := by omega)); (try (have : w.heap.size + 1 < w3.heap.size := by omega)); (try (have : w.heap.size + 1 + 1 < w3.heap.size := by omega)); (try (have : w.heap.size + 1 + 1 + 1 < w3.heap.size := by omega))
            go_wp2
            go_roundw
            case rel => exact ⟨1, by omega, by go_num, by rw [HN.out], by repeat' (first | (with_reducible exact Below.refl _ _) | (with_reducible assumption) | (with_reducible refine Below.alloc ?_ ?_ _) | (with_reducible refine Below.drew ?_) | (with_reducible refine Below.setCell ?_ ?_ _) | (with_reducible refine Below.stepB (by assumption) ?_ ?_) | go_size)⟩
            case measure => simp [intOf]
        · generalize hf : sep3 s20 s21 s22 1 = fl
          have HF := Lib.hid hf
          clear hf
          cases fl
          · have HN : Hid (sep3 s20 s21 s22 2 = false) := by
              show _ = _
              have := HF.out
              revert this
              simp only [sep3]
              intro this
              first | (cases this; done) | simp [this]
            go_wp2
            refine wp_region_later (by kernel_rfl) (by kernel_rfl) (fun hlx => ?_)
            repeat (go_big_quiet_step (fail))
            refine wpQuiet_nil ?_
            clear hlx
            intro w3 hbw3
            obtain ⟨hzw3, hcw3, hfw3⟩ := bfacts hbw3; (try simp at hzw3 hcw3 hfw3); (try (have : w.heap.size < w3.heap.size := by omega)); (try (have : w.heap.size + 1 < w3.heap.size := by omega)); (try (have : w.heap.size + 1 + 1 < w3.heap.size := by omega)); (try (have : w.heap.size + 1 + 1 + 1 < w3.heap.size := by omega))
            go_wp2
            go_roundw
            case rel => exact ⟨2, by omega, by go_num, by rw [HN.out], by repeat' (first | (with_reducible exact Below.refl _ _) | (with_reducible assumption) | (with_reducible refine Below.alloc ?_ ?_ _) | (with_reducible refine Below.drew ?_) | (with_reducible refine Below.setCell ?_ ?_ _) | (with_reducible refine Below.stepB (by assumption) ?_ ?_) | go_size)⟩
            case measure => simp [intOf]
          · have HN : Hid (sep3 s20 s21 s22 2 = decide (s21 ≤ 0)) := by
              show _ = _
              have := HF.out
              revert this
              simp only [sep3]
              intro this
              first | rfl | (simp only [this, Bool.true_and]; done)
            go_wp2
            refine wp_region_later (by kernel_rfl) (by kernel_rfl) (fun hlx => ?_)
            repeat (go_big_quiet_step ((go_at_call 68; exact Later.call (X21.out _))))
            refine wpQuiet_nil ?_
            clear hlx
            intro w3 hbw3
            obtain ⟨hzw3, hcw3, hfw3⟩ := bfacts hbw3; (try simp at hzw3 hcw3 hfw3); (try (have : w.heap.size < w3.heap.size := by omega)); (try (have : w.heap.size + 1 < w3.heap.size := by omega)); (try (have : w.heap.size + 1 + 1 < w3.heap.size := by omega)); (try (have : w.heap.size + 1 + 1 + 1 < w3.heap.size := by omega))
            go_wp2
            go_roundw
            case rel => exact ⟨2, by omega, by go_num, by rw [HN.out], by repeat' (first | (with_reducible exact Below.refl _ _) | (with_reducible assumption) | (with_reducible refine Below.alloc ?_ ?_ _) | (with_reducible refine Below.drew ?_) | (with_reducible refine Below.setCell ?_ ?_ _) | (with_reducible refine Below.stepB (by assumption) ?_ ?_) | go_size)⟩
            case measure => simp [intOf]
        · generalize hf : sep3 s20 s21 s22 2 = fl
          have HF := Lib.hid hf
          clear hf
          cases fl
          · have HN : Hid (sep3 s20 s21 s22 3 = false) := by
              show _ = _
              have := HF.out
              revert this
              simp only [sep3]
              intro this
              first | (cases this; done) | simp [this]
            go_wp2
            refine wp_region_later (by kernel_rfl) (by kernel_rfl) (fun hlx => ?_)
            repeat (go_big_quiet_step (fail))
            refine wpQuiet_nil ?_
            clear hlx
            intro w3 hbw3
            obtain ⟨hzw3, hcw3, hfw3⟩ := bfacts hbw3; (try simp at hzw3 hcw3 hfw3); (try (have : w.heap.size < w3.heap.size := by omega)); (try (have : w.heap.size + 1 < w3.heap.size := by omega)); (try (have : w.heap.size + 1 + 1 < w3.heap.size := by omega)); (try (have : w.heap.size + 1 + 1 + 1 < w3.heap.size := by omega))
            go_wp2
            go_roundw
            case rel => exact ⟨3, by omega, by go_num, by rw [HN.out], by repeat' (first | (with_reducible exact Below.refl _ _) | (with_reducible assumption) | (with_reducible refine Below.alloc ?_ ?_ _) | (with_reducible refine Below.drew ?_) | (with_reducible refine Below.setCell ?_ ?_ _) | (with_reducible refine Below.stepB (by assumption) ?_ ?_) | go_size)⟩
            case measure => simp [intOf]
          · have HN : Hid (sep3 s20 s21 s22 3 = decide (s22 ≤ 0)) := by
              show _ = _
              have := HF.out
              revert this
              simp only [sep3]
              intro this
              first | rfl | (simp only [this, Bool.true_and]; done)
            go_wp2
            refine wp_region_later (by kernel_rfl) (by kernel_rfl) (fun hlx => ?_)
            repeat (go_big_quiet_step ((go_at_call 68; exact Later.call (X22.out _))))
            refine wpQuiet_nil ?_
            clear hlx
            intro w3 hbw3
            obtain ⟨hzw3, hcw3, hfw3⟩ := bfacts hbw3; (try simp at hzw3 hcw3 hfw3); (try (have : w.heap.size < w3.heap.size := by omega)); (try (have : w.heap.size + 1 < w3.heap.size := by omega)); (try (have : w.heap.size + 1 + 1 < w3.heap.size := by omega)); (try (have : w.heap.size + 1 + 1 + 1 < w3.heap.size := by omega))
            go_wp2
            go_roundw
            case rel => exact ⟨3, by omega, by go_num, by rw [HN.out], by repeat' (first | (with_reducible exact Below.refl _ _) | (with_reducible assumption) | (with_reducible refine Below.alloc ?_ ?_ _) | (with_reducible refine Below.drew ?_) | (with_reducible refine Below.setCell ?_ ?_ _) | (with_reducible refine Below.stepB (by assumption) ?_ ?_) | go_size)⟩
            case measure => simp [intOf]
        · generalize hf : sep3 s20 s21 s22 3 = fl
          have HF := Lib.hid hf
          clear hf c0 c1 c2 c3 c4 c5
          have hbw := HBW.out
          cases fl
          · clear hbq
            go_wp2
            go_roundw
            case rel => exact ⟨3, by omega, by go_num, fun _ => HG.out.1 (by omega), fun _ => HG.out.2.1 (by omega), fun _ => HF.out, HA2.out, HB2.out, hbw⟩
            case measure => simp [intOf]
          · have HR : Hid (true = res) := by
              show _ = _
              rw [HI.out, HF.out]
              simp
            clear hbq
            go_wp2
            go_ret
            exact ⟨ret_bool HR.out, hbw⟩
    · have HR : Hid (false = res) := by
        show _ = _
        rw [HI.out, HG.out.1 (by omega), HG.out.2.1 (by omega), HG.out.2.2 (by omega)]
        rfl
      clear e0 e1 e2 e3 e4 e5
      have hbr := HBR.out
      go_wp2
      go_ret
      exact ⟨ret_bool HR.out, hbr⟩
end Go.Proofs.Ytfflbkmncnaffaa
