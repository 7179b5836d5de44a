/- Contracts of the reference's function that tells whether an edge parts two triangles. -/
import Derived.Test.YtfflbkmncnaffaaMeshE
import Derived.Deep.DeepCutAuto
import Derived.Deep.RegionHeld3
namespace Go.Proofs.Ytfflbkmncnaffaa
open Go.RowKit
set_option maxRecDepth 100000 in
set_option maxHeartbeats 8000000 in
theorem l15Apart_any (A : Option Addr) (n c : Nat) (S : Nat → SP) (t u : Nat → Int) (w : World) (hS : SlSP w A n S) (_hn : n ≤ 1048576) (hsp : ∀ i, i < n → spB (S i) = true) (ht : idxB n t = true) (hu : idxB n u = true) :
    Calls Try.prog 126 #[.slice A n c, .agg #[.int .i64 (t 0), .int .i64 (t 1), .int .i64 (t 2)], .agg #[.int .i64 (u 0), .int .i64 (u 1), .int .i64 (u 2)]] w fun e w' => e = .returned (.bool (partsB S t u)) ∧ Below w.heap.size w w' := by
  obtain ⟨a0, a1, a2, ha0, ha1, ha2, e0, e1, e2⟩ := idxB_nat ht
  obtain ⟨b0, b1, b2, hb0, hb1, hb2, f0, f1, f2⟩ := idxB_nat hu
  have x00 := fun W => l2Cross_any (S a0).x (S a0).y (S a1).x (S a1).y (S b0).x (S b0).y W (hsp a0 ha0) (hsp a1 ha1) (hsp b0 hb0)
  have x01 := fun W => l2Cross_any (S a0).x (S a0).y (S a1).x (S a1).y (S b1).x (S b1).y W (hsp a0 ha0) (hsp a1 ha1) (hsp b1 hb1)
  have x02 := fun W => l2Cross_any (S a0).x (S a0).y (S a1).x (S a1).y (S b2).x (S b2).y W (hsp a0 ha0) (hsp a1 ha1) (hsp b2 hb2)
  have x10 := fun W => l2Cross_any (S a1).x (S a1).y (S a2).x (S a2).y (S b0).x (S b0).y W (hsp a1 ha1) (hsp a2 ha2) (hsp b0 hb0)
  have x11 := fun W => l2Cross_any (S a1).x (S a1).y (S a2).x (S a2).y (S b1).x (S b1).y W (hsp a1 ha1) (hsp a2 ha2) (hsp b1 hb1)
  have x12 := fun W => l2Cross_any (S a1).x (S a1).y (S a2).x (S a2).y (S b2).x (S b2).y W (hsp a1 ha1) (hsp a2 ha2) (hsp b2 hb2)
  have x20 := fun W => l2Cross_any (S a2).x (S a2).y (S a0).x (S a0).y (S b0).x (S b0).y W (hsp a2 ha2) (hsp a0 ha0) (hsp b0 hb0)
  have x21 := fun W => l2Cross_any (S a2).x (S a2).y (S a0).x (S a0).y (S b1).x (S b1).y W (hsp a2 ha2) (hsp a0 ha0) (hsp b1 hb1)
  have x22 := fun W => l2Cross_any (S a2).x (S a2).y (S a0).x (S a0).y (S b2).x (S b2).y W (hsp a2 ha2) (hsp a0 ha0) (hsp b2 hb2)
  have hi : partsB S t u = ((decide (crD (S a0).x (S a0).y (S a1).x (S a1).y (S b0).x (S b0).y ≤ 0) && (decide (crD (S a0).x (S a0).y (S a1).x (S a1).y (S b1).x (S b1).y ≤ 0) && decide (crD (S a0).x (S a0).y (S a1).x (S a1).y (S b2).x (S b2).y ≤ 0))) || ((decide (crD (S a1).x (S a1).y (S a2).x (S a2).y (S b0).x (S b0).y ≤ 0) && (decide (crD (S a1).x (S a1).y (S a2).x (S a2).y (S b1).x (S b1).y ≤ 0) && decide (crD (S a1).x (S a1).y (S a2).x (S a2).y (S b2).x (S b2).y ≤ 0))) || (decide (crD (S a2).x (S a2).y (S a0).x (S a0).y (S b0).x (S b0).y ≤ 0) && (decide (crD (S a2).x (S a2).y (S a0).x (S a0).y (S b1).x (S b1).y ≤ 0) && decide (crD (S a2).x (S a2).y (S a0).x (S a0).y (S b2).x (S b2).y ≤ 0))))) := by rw [partsB, cn, cn, cn, cn, cn, cn, e0, e1, e2, f0, f1, f2]; rfl
  generalize partsB S t u = res at hi ⊢
  generalize crD (S a0).x (S a0).y (S a1).x (S a1).y (S b0).x (S b0).y = s00 at x00 hi
  generalize crD (S a0).x (S a0).y (S a1).x (S a1).y (S b1).x (S b1).y = s01 at x01 hi
  generalize crD (S a0).x (S a0).y (S a1).x (S a1).y (S b2).x (S b2).y = s02 at x02 hi
  generalize crD (S a1).x (S a1).y (S a2).x (S a2).y (S b0).x (S b0).y = s10 at x10 hi
  generalize crD (S a1).x (S a1).y (S a2).x (S a2).y (S b1).x (S b1).y = s11 at x11 hi
  generalize crD (S a1).x (S a1).y (S a2).x (S a2).y (S b2).x (S b2).y = s12 at x12 hi
  generalize crD (S a2).x (S a2).y (S a0).x (S a0).y (S b0).x (S b0).y = s20 at x20 hi
  generalize crD (S a2).x (S a2).y (S a0).x (S a0).y (S b1).x (S b1).y = s21 at x21 hi
  generalize crD (S a2).x (S a2).y (S a0).x (S a0).y (S b2).x (S b2).y = s22 at x22 hi
  rw [sep3_all, sep3_all, sep3_all] at hi
  have X00 := Lib.hid x00
  have X01 := Lib.hid x01
  have X02 := Lib.hid x02
  have X10 := Lib.hid x10
  have X11 := Lib.hid x11
  have X12 := Lib.hid x12
  have X20 := Lib.hid x20
  have X21 := Lib.hid x21
  have X22 := Lib.hid x22
  have HI := Lib.hid hi
  rw [e0, e1, e2, f0, f1, f2]
  obtain ⟨b, off, rfl⟩ := hS.form ha0
  have HS := Lib.hid hS
  clear hi hS hsp ht hu e0 e1 e2 f0 f1 f2 x00 x01 x02 x10 x11 x12 x20 x21 x22
  go_enter Try.func126, Try.ntmps126
  go_wp2
  go_loopw [7] (fun v9 wr => ∃ k : Nat, k ≤ 3 ∧ v9 = .int .i64 k ∧ Hid (0 < k → sep3 s00 s01 s02 3 = false) ∧ Hid (1 < k → sep3 s10 s11 s12 3 = false) ∧ Hid (2 < k → sep3 s20 s21 s22 3 = false) ∧ Blk wr w.heap.size 41 #[.int .i64 a0, .int .i64 a1, .int .i64 a2] ∧ Blk wr (w.heap.size + 1) 41 #[.int .i64 b0, .int .i64 b1, .int .i64 b2] ∧ Below w.heap.size w wr) (fun v9 _ => 3 - (intOf v9).toNat)
  case atStart => exact ⟨0, by omega, rfl, fun h => absurd h (by omega), fun h => absurd h (by omega), fun h => absurd h (by omega), (blk_newP w _ _ rfl).alloc _, blk_newP _ _ _ (by simp), by repeat' (first | (with_reducible exact Below.refl _ _) | (with_reducible assumption) | (with_reducible refine Below.alloc ?_ ?_ _) | (with_reducible refine Below.drew ?_) | (with_reducible refine Below.setCell ?_ ?_ _) | (with_reducible refine Below.stepB (by assumption) ?_ ?_) | go_size)⟩
  case round =>
    obtain ⟨k, hk, rfl, g1, g2, g3, hA, hB, hbr⟩ := hrel
    have hzr := hbr.size
    have hlA := hA.lt
    have hlB := hB.lt
    have HA := Lib.hid hA
    have HB := Lib.hid hB
    have HBR := Lib.hid hbr
    have hSr : SlSP wr (some ⟨b, off, none⟩) n S := HS.out.below hbr
    have c0 : wr.cell? ⟨w.heap.size, 0, none⟩ = some (.int .i64 a0) := hA.cell 0
    obtain ⟨hbl0, y0, z0⟩ := hSr.pt ha0
    have c1 : wr.cell? ⟨w.heap.size, 1, none⟩ = some (.int .i64 a1) := hA.cell 1
    obtain ⟨hbl1, y1, z1⟩ := hSr.pt ha1
    have c2 : wr.cell? ⟨w.heap.size, 2, none⟩ = some (.int .i64 a2) := hA.cell 2
    obtain ⟨hbl2, y2, z2⟩ := hSr.pt ha2
    clear hA hB hbr hSr hbl1 hbl2
    obtain rfl | rfl | rfl | rfl : k = 0 ∨ k = 1 ∨ k = 2 ∨ k = 3 := by omega
    · clear c2 y2 z2
      go_upto_region 4 with fail
      go_cut [8, 9] (fun v8 v9 wx => ∃ g8 g9 : Nat, v8 = .pointer (some ⟨g8, 0, none⟩) ∧ v9 = .pointer (some ⟨g9, 0, none⟩) ∧ Blk wx g8 26 #[.int .i64 (S a0).x, .int .i64 (S a0).y] ∧ Blk wx g9 26 #[.int .i64 (S a1).x, .int .i64 (S a1).y] ∧ Below wr.heap.size wr wx)
      case first =>
        have s1 : IntKind.i64.wrap (((0 : Nat) : Int) + 1) = 1 := by decide
        have s2 : IntKind.i64.wrap ((0 : Int) + 1) = 1 := by decide
        have s3 : IntKind.i64.wrap (1 : Int) = 1 := by decide
        have s4 : (1 : Int).tmod 3 = 1 := by decide
        have s5 : (IntKind.i64.wrap (1 : Int)).tmod 3 = 1 := by decide
        have s6 : IntKind.i64.wrap (1 : Int) = 1 := by decide
        go_region_held3 (fun w' => (w'.cell? ⟨w.heap.size, 0, none⟩ = some (.int .i64 a0) ∧ w'.cell? ⟨w.heap.size, 1, none⟩ = some (.int .i64 a1)) ∧ (w'.cell? ⟨b, off + a0 * 2, none⟩ = some (.int .i64 (S a0).x) ∧ w'.cell? ⟨b, off + a0 * 2 + 1, none⟩ = some (.int .i64 (S a0).y)) ∧ (w'.cell? ⟨b, off + a1 * 2, none⟩ = some (.int .i64 (S a1).x) ∧ w'.cell? ⟨b, off + a1 * 2 + 1, none⟩ = some (.int .i64 (S a1).y))) (first | go_keep | ((try dsimp only); (repeat' apply And.intro) <;> go_keep)) (first | fail)
        all_goals (go_wp2_with fail; go_meet; first | exact ⟨wr.heap.size, wr.heap.size + 1, rfl, rfl, ((blk_newP wr _ _ rfl).alloc _).drew, (blk_newP _ _ _ (by simp)).drew, by repeat' (first | (with_reducible exact Below.refl _ _) | (with_reducible assumption) | (with_reducible refine Below.alloc ?_ ?_ _) | (with_reducible refine Below.drew ?_) | (with_reducible refine Below.setCell ?_ ?_ _) | (with_reducible refine Below.stepB (by assumption) ?_ ?_) | go_size)⟩ | exact ⟨wr.heap.size + 1, wr.heap.size, rfl, rfl, (blk_newP _ _ _ (by simp)).drew, ((blk_newP wr _ _ rfl).alloc _).drew, by repeat' (first | (with_reducible exact Below.refl _ _) | (with_reducible assumption) | (with_reducible refine Below.alloc ?_ ?_ _) | (with_reducible refine Below.drew ?_) | (with_reducible refine Below.setCell ?_ ?_ _) | (with_reducible refine Below.stepB (by assumption) ?_ ?_) | go_size)⟩)
      clear c0 y0 z0 c1 y1 z1
      obtain ⟨g8, g9, rfl, rfl, h8, h9, hbc⟩ := hcut
      have hzc := hbc.size
      have HAC := Lib.hid (HA.out.below hbc hlA)
      have HBC := Lib.hid (HB.out.below hbc hlB)
      have hlAc : w.heap.size < wc.heap.size := by omega
      have hlBc : w.heap.size + 1 < wc.heap.size := by omega
      have HBRC : Hid (Below w.heap.size w wc) := HBR.out.trans (hbc.mono (by omega))
      clear hbc
      go_wp2
      go_loopw [10, 11] (fun v6 v13 wq => ∃ j : Nat, j ≤ 3 ∧ v13 = .int .i64 j ∧ v6 = .bool (sep3 s00 s01 s02 j) ∧ Blk wq g8 26 #[.int .i64 (S a0).x, .int .i64 (S a0).y] ∧ Blk wq g9 26 #[.int .i64 (S a1).x, .int .i64 (S a1).y] ∧ Below wc.heap.size wc wq) (fun _ v13 _ => 3 - (intOf v13).toNat)
      case atStart => exact ⟨0, by omega, rfl, rfl, h8, h9, Below.refl _ _⟩
      case round =>
        rename World => wq
        clear h8 h9
        obtain ⟨j, hj, rfl, rfl, h8, h9, hbq⟩ := hrel
        have hzq := hbq.size
        have hl8 := h8.lt
        have hl9 := h9.lt
        have H8 := Lib.hid h8
        have H9 := Lib.hid h9
        have hA := HAC.out.below hbq hlAc
        have hB := HBC.out.below hbq hlBc
        have hlA2 := hA.lt
        have hlB2 := hB.lt
        have HA2 := Lib.hid hA
        have HB2 := Lib.hid hB
        obtain ⟨_, p0, p1⟩ := h8.two
        obtain ⟨_, q0, q1⟩ := h9.two
        have hbw : Below w.heap.size w wq := HBRC.out.trans (hbq.mono (by omega))
        have hSq : SlSP wq (some ⟨b, off, none⟩) n S := HS.out.below hbw
        have d0 : wq.cell? ⟨w.heap.size + 1, 0, none⟩ = some (.int .i64 b0) := hB.cell 0
        obtain ⟨hbq0, m0, n0⟩ := hSq.pt hb0
        have d1 : wq.cell? ⟨w.heap.size + 1, 1, none⟩ = some (.int .i64 b1) := hB.cell 1
        obtain ⟨hbq1, m1, n1⟩ := hSq.pt hb1
        have d2 : wq.cell? ⟨w.heap.size + 1, 2, none⟩ = some (.int .i64 b2) := hB.cell 2
        obtain ⟨hbq2, m2, n2⟩ := hSq.pt hb2
        have HBW := Lib.hid hbw
        clear hA hB h8 h9 hbw hSq hbq1 hbq2
        obtain rfl | rfl | rfl | rfl : j = 0 ∨ j = 1 ∨ j = 2 ∨ j = 3 := by omega
        · generalize hf : sep3 s00 s01 s02 0 = fl
          have HF := Lib.hid hf
          clear hf
          cases fl
          · have HN : Hid (sep3 s00 s01 s02 1 = false) := by
              show _ = _
              have := HF.out
              revert this
              simp only [sep3]
              intro this
              first | (cases this; done) | simp [this]
            go_wp2
            refine wp_region_later (by kernel_rfl) (by kernel_rfl) (fun hlx => ?_)
            repeat (go_big_quiet_step (fail))
            refine wpQuiet_nil ?_
            clear hlx
            intro w3 hbw3
            obtain ⟨hzw3, hcw3, hfw3⟩ := bfacts hbw3; (try simp at hzw3 hcw3 hfw3); (try (have : w.heap.size < w3.heap.size := by omega)); (try (have : w.heap.size + 1 < w3.heap.size := by omega)); (try (have : w.heap.size + 1 + 1 < w3.heap.size := by omega)); (try (have : w.heap.size + 1 + 1 + 1 < w3.heap.size := by omega))
            go_wp2
            go_roundw
            case rel => exact ⟨1, by omega, by go_num, by rw [HN.out], H8.out.below hbw3 hl8, H9.out.below hbw3 hl9, by repeat' (first | (with_reducible exact Below.refl _ _) | (with_reducible assumption) | (with_reducible refine Below.alloc ?_ ?_ _) | (with_reducible refine Below.drew ?_) | (with_reducible refine Below.setCell ?_ ?_ _) | (with_reducible refine Below.stepB (by assumption) ?_ ?_) | go_size)⟩
            case measure => simp [intOf]
          · have HN : Hid (sep3 s00 s01 s02 1 = decide (s00 ≤ 0)) := by
              show _ = _
              rfl
            go_wp2
            refine wp_region_later (by kernel_rfl) (by kernel_rfl) (fun hlx => ?_)
            repeat (go_big_quiet_step ((go_at_call 65; exact Later.call (X00.out _))))
            refine wpQuiet_nil ?_
            clear hlx
            intro w3 hbw3
            obtain ⟨hzw3, hcw3, hfw3⟩ := bfacts hbw3; (try simp at hzw3 hcw3 hfw3); (try (have : w.heap.size < w3.heap.size := by omega)); (try (have : w.heap.size + 1 < w3.heap.size := by omega)); (try (have : w.heap.size + 1 + 1 < w3.heap.size := by omega)); (try (have : w.heap.size + 1 + 1 + 1 < w3.heap.size := by omega))
            go_wp2
            go_roundw
            case rel => exact ⟨1, by omega, by go_num, by rw [HN.out], H8.out.below hbw3 hl8, H9.out.below hbw3 hl9, by repeat' (first | (with_reducible exact Below.refl _ _) | (with_reducible assumption) | (with_reducible refine Below.alloc ?_ ?_ _) | (with_reducible refine Below.drew ?_) | (with_reducible refine Below.setCell ?_ ?_ _) | (with_reducible refine Below.stepB (by assumption) ?_ ?_) | go_size)⟩
            case measure => simp [intOf]
        · generalize hf : sep3 s00 s01 s02 1 = fl
          have HF := Lib.hid hf
          clear hf
          cases fl
          · have HN : Hid (sep3 s00 s01 s02 2 = false) := by
              show _ = _
              have := HF.out
              revert this
              simp only [sep3]
              intro this
              first | (cases this; done) | simp [this]
            go_wp2
            refine wp_region_later (by kernel_rfl) (by kernel_rfl) (fun hlx => ?_)
            repeat (go_big_quiet_step (fail))
            refine wpQuiet_nil ?_
            clear hlx
            intro w3 hbw3
            obtain ⟨hzw3, hcw3, hfw3⟩ := bfacts hbw3; (try simp at hzw3 hcw3 hfw3); (try (have : w.heap.size < w3.heap.size := by omega)); (try (have : w.heap.size + 1 < w3.heap.size := by omega)); (try (have : w.heap.size + 1 + 1 < w3.heap.size := by omega)); (try (have : w.heap.size + 1 + 1 + 1 < w3.heap.size := by omega))
            go_wp2
            go_roundw
            case rel => exact ⟨2, by omega, by go_num, by rw [HN.out], H8.out.below hbw3 hl8, H9.out.below hbw3 hl9, by repeat' (first | (with_reducible exact Below.refl _ _) | (with_reducible assumption) | (with_reducible refine Below.alloc ?_ ?_ _) | (with_reducible refine Below.drew ?_) | (with_reducible refine Below.setCell ?_ ?_ _) | (with_reducible refine Below.stepB (by assumption) ?_ ?_) | go_size)⟩
            case measure => simp [intOf]
          · have HN : Hid (sep3 s00 s01 s02 2 = decide (s01 ≤ 0)) := by
              show _ = _
              have := HF.out
              revert this
              simp only [sep3]
              intro this
              first | rfl | (simp only [this, Bool.true_and]; done)
            go_wp2
            refine wp_region_later (by kernel_rfl) (by kernel_rfl) (fun hlx => ?_)
            repeat (go_big_quiet_step ((go_at_call 65; exact Later.call (X01.out _))))
            refine wpQuiet_nil ?_
            clear hlx
            intro w3 hbw3
            obtain ⟨hzw3, hcw3, hfw3⟩ := bfacts hbw3; (try simp at hzw3 hcw3 hfw3); (try (have : w.heap.size < w3.heap.size := by omega)); (try (have : w.heap.size + 1 < w3.heap.size := by omega)); (try (have : w.heap.size + 1 + 1 < w3.heap.size := by omega)); (try (have : w.heap.size + 1 + 1 + 1 < w3.heap.size := by omega))
            go_wp2
            go_roundw
            case rel => exact ⟨2, by omega, by go_num, by rw [HN.out], H8.out.below hbw3 hl8, H9.out.below hbw3 hl9, by repeat' (first | (with_reducible exact Below.refl _ _) | (with_reducible assumption) | (with_reducible refine Below.alloc ?_ ?_ _) | (with_reducible refine Below.drew ?_) | (with_reducible refine Below.setCell ?_ ?_ _) | (with_reducible refine Below.stepB (by assumption) ?_ ?_) | go_size)⟩
            case measure => simp [intOf]
        · generalize hf : sep3 s00 s01 s02 2 = fl
          have HF := Lib.hid hf
          clear hf
          cases fl
          · have HN : Hid (sep3 s00 s01 s02 3 = false) := by
              show _ = _
              have := HF.out
              revert this
              simp only [sep3]
              intro this
              first | (cases this; done) | simp [this]
            go_wp2
            refine wp_region_later (by kernel_rfl) (by kernel_rfl) (fun hlx => ?_)
            repeat (go_big_quiet_step (fail))
            refine wpQuiet_nil ?_
            clear hlx
            intro w3 hbw3
            obtain ⟨hzw3, hcw3, hfw3⟩ := bfacts hbw3; (try simp at hzw3 hcw3 hfw3); (try (have : w.heap.size < w3.heap.size := by omega)); (try (have : w.heap.size + 1 < w3.heap.size := by omega)); (try (have : w.heap.size + 1 + 1 < w3.heap.size := by omega)); (try (have : w.heap.size + 1 + 1 + 1 < w3.heap.size := by omega))
            go_wp2
            go_roundw
            case rel => exact ⟨3, by omega, by go_num, by rw [HN.out], H8.out.below hbw3 hl8, H9.out.below hbw3 hl9, by repeat' (first | (with_reducible exact Below.refl _ _) | (with_reducible assumption) | (with_reducible refine Below.alloc ?_ ?_ _) | (with_reducible refine Below.drew ?_) | (with_reducible refine Below.setCell ?_ ?_ _) | (with_reducible refine Below.stepB (by assumption) ?_ ?_) | go_size)⟩
            case measure => simp [intOf]
          · have HN : Hid (sep3 s00 s01 s02 3 = decide (s02 ≤ 0)) := by
              show _ = _
              have := HF.out
              revert this
              simp only [sep3]
              intro this
              first | rfl | (simp only [this, Bool.true_and]; done)
            go_wp2
            refine wp_region_later (by kernel_rfl) (by kernel_rfl) (fun hlx => ?_)
            repeat (go_big_quiet_step ((go_at_call 65; exact Later.call (X02.out _))))
            refine wpQuiet_nil ?_
            clear hlx
            intro w3 hbw3
            obtain ⟨hzw3, hcw3, hfw3⟩ := bfacts hbw3; (try simp at hzw3 hcw3 hfw3); (try (have : w.heap.size < w3.heap.size := by omega)); (try (have : w.heap.size + 1 < w3.heap.size := by omega)); (try (have : w.heap.size + 1 + 1 < w3.heap.size := by omega)); (try (have : w.heap.size + 1 + 1 + 1 < w3.heap.size := by omega))
            go_wp2
            go_roundw
            case rel => exact ⟨3, by omega, by go_num, by rw [HN.out], H8.out.below hbw3 hl8, H9.out.below hbw3 hl9, by repeat' (first | (with_reducible exact Below.refl _ _) | (with_reducible assumption) | (with_reducible refine Below.alloc ?_ ?_ _) | (with_reducible refine Below.drew ?_) | (with_reducible refine Below.setCell ?_ ?_ _) | (with_reducible refine Below.stepB (by assumption) ?_ ?_) | go_size)⟩
            case measure => simp [intOf]
        · generalize hf : sep3 s00 s01 s02 3 = fl
          have HF := Lib.hid hf
          clear hf d0 d1 d2 m0 m1 m2 n0 n1 n2 p0 p1 q0 q1
          have hbw := HBW.out
          cases fl
          · clear hbq
            go_wp2
            go_roundw
            case rel => exact ⟨1, by omega, by go_num, fun _ => HF.out, fun h => absurd h (by omega), fun h => absurd h (by omega), HA2.out, HB2.out, hbw⟩
            case measure => simp [intOf]
          · have HR : Hid (true = res) := by
              show _ = _
              rw [HI.out, HF.out]
              simp
            clear hbq
            go_wp2
            go_ret
            exact ⟨ret_bool HR.out, hbw⟩
    · clear c0 y0 z0
      go_upto_region 4 with fail
      go_cut [8, 9] (fun v8 v9 wx => ∃ g8 g9 : Nat, v8 = .pointer (some ⟨g8, 0, none⟩) ∧ v9 = .pointer (some ⟨g9, 0, none⟩) ∧ Blk wx g8 26 #[.int .i64 (S a1).x, .int .i64 (S a1).y] ∧ Blk wx g9 26 #[.int .i64 (S a2).x, .int .i64 (S a2).y] ∧ Below wr.heap.size wr wx)
      case first =>
        have s1 : IntKind.i64.wrap (((1 : Nat) : Int) + 1) = 2 := by decide
        have s2 : IntKind.i64.wrap ((1 : Int) + 1) = 2 := by decide
        have s3 : IntKind.i64.wrap (2 : Int) = 2 := by decide
        have s4 : (2 : Int).tmod 3 = 2 := by decide
        have s5 : (IntKind.i64.wrap (2 : Int)).tmod 3 = 2 := by decide
        have s6 : IntKind.i64.wrap (2 : Int) = 2 := by decide
        go_region_held3 (fun w' => (w'.cell? ⟨w.heap.size, 1, none⟩ = some (.int .i64 a1) ∧ w'.cell? ⟨w.heap.size, 2, none⟩ = some (.int .i64 a2)) ∧ (w'.cell? ⟨b, off + a1 * 2, none⟩ = some (.int .i64 (S a1).x) ∧ w'.cell? ⟨b, off + a1 * 2 + 1, none⟩ = some (.int .i64 (S a1).y)) ∧ (w'.cell? ⟨b, off + a2 * 2, none⟩ = some (.int .i64 (S a2).x) ∧ w'.cell? ⟨b, off + a2 * 2 + 1, none⟩ = some (.int .i64 (S a2).y))) (first | go_keep | ((try dsimp only); (repeat' apply And.intro) <;> go_keep)) (first | fail)
        all_goals (go_wp2_with fail; go_meet; first | exact ⟨wr.heap.size, wr.heap.size + 1, rfl, rfl, ((blk_newP wr _ _ rfl).alloc _).drew, (blk_newP _ _ _ (by simp)).drew, by repeat' (first | (with_reducible exact Below.refl _ _) | (with_reducible assumption) | (with_reducible refine Below.alloc ?_ ?_ _) | (with_reducible refine Below.drew ?_) | (with_reducible refine Below.setCell ?_ ?_ _) | (with_reducible refine Below.stepB (by assumption) ?_ ?_) | go_size)⟩ | exact ⟨wr.heap.size + 1, wr.heap.size, rfl, rfl, (blk_newP _ _ _ (by simp)).drew, ((blk_newP wr _ _ rfl).alloc _).drew, by repeat' (first | (with_reducible exact Below.refl _ _) | (with_reducible assumption) | (with_reducible refine Below.alloc ?_ ?_ _) | (with_reducible refine Below.drew ?_) | (with_reducible refine Below.setCell ?_ ?_ _) | (with_reducible refine Below.stepB (by assumption) ?_ ?_) | go_size)⟩)
      clear c1 y1 z1 c2 y2 z2
      obtain ⟨g8, g9, rfl, rfl, h8, h9, hbc⟩ := hcut
      have hzc := hbc.size
      have HAC := Lib.hid (HA.out.below hbc hlA)
      have HBC := Lib.hid (HB.out.below hbc hlB)
      have hlAc : w.heap.size < wc.heap.size := by omega
      have hlBc : w.heap.size + 1 < wc.heap.size := by omega
      have HBRC : Hid (Below w.heap.size w wc) := HBR.out.trans (hbc.mono (by omega))
      clear hbc
      go_wp2
      go_loopw [10, 11] (fun v6 v13 wq => ∃ j : Nat, j ≤ 3 ∧ v13 = .int .i64 j ∧ v6 = .bool (sep3 s10 s11 s12 j) ∧ Blk wq g8 26 #[.int .i64 (S a1).x, .int .i64 (S a1).y] ∧ Blk wq g9 26 #[.int .i64 (S a2).x, .int .i64 (S a2).y] ∧ Below wc.heap.size wc wq) (fun _ v13 _ => 3 - (intOf v13).toNat)
      case atStart => exact ⟨0, by omega, rfl, rfl, h8, h9, Below.refl _ _⟩
      case round =>
        rename World => wq
        clear h8 h9
        obtain ⟨j, hj, rfl, rfl, h8, h9, hbq⟩ := hrel
        have hzq := hbq.size
        have hl8 := h8.lt
        have hl9 := h9.lt
        have H8 := Lib.hid h8
        have H9 := Lib.hid h9
        have hA := HAC.out.below hbq hlAc
        have hB := HBC.out.below hbq hlBc
        have hlA2 := hA.lt
        have hlB2 := hB.lt
        have HA2 := Lib.hid hA
        have HB2 := Lib.hid hB
        obtain ⟨_, p0, p1⟩ := h8.two
        obtain ⟨_, q0, q1⟩ := h9.two
        have hbw : Below w.heap.size w wq := HBRC.out.trans (hbq.mono (by omega))
        have hSq : SlSP wq (some ⟨b, off, none⟩) n S := HS.out.below hbw
        have d0 : wq.cell? ⟨w.heap.size + 1, 0, none⟩ = some (.int .i64 b0) := hB.cell 0
        obtain ⟨hbq0, m0, n0⟩ := hSq.pt hb0
        have d1 : wq.cell? ⟨w.heap.size + 1, 1, none⟩ = some (.int .i64 b1) := hB.cell 1
        obtain ⟨hbq1, m1, n1⟩ := hSq.pt hb1
        have d2 : wq.cell? ⟨w.heap.size + 1, 2, none⟩ = some (.int .i64 b2) := hB.cell 2
        obtain ⟨hbq2, m2, n2⟩ := hSq.pt hb2
        have HBW := Lib.hid hbw
        clear hA hB h8 h9 hbw hSq hbq1 hbq2
        obtain rfl | rfl | rfl | rfl : j = 0 ∨ j = 1 ∨ j = 2 ∨ j = 3 := by omega
        · generalize hf : sep3 s10 s11 s12 0 = fl
          have HF := Lib.hid hf
          clear hf
          cases fl
          · have HN : Hid (sep3 s10 s11 s12 1 = false) := by
              show _ = _
              have := HF.out
              revert this
              simp only [sep3]
              intro this
              first | (cases this; done) | simp [this]
            go_wp2
            refine wp_region_later (by kernel_rfl) (by kernel_rfl) (fun hlx => ?_)
            repeat (go_big_quiet_step (fail))
            refine wpQuiet_nil ?_
            clear hlx
            intro w3 hbw3
            obtain ⟨hzw3, hcw3, hfw3⟩ := bfacts hbw3; (try simp at hzw3 hcw3 hfw3); (try (have : w.heap.size < w3.heap.size := by omega)); (try (have : w.heap.size + 1 < w3.heap.size := by omega)); (try (have : w.heap.size + 1 + 1 < w3.heap.size := by omega)); (try (have : w.heap.size + 1 + 1 + 1 < w3.heap.size := by omega))
            go_wp2
            go_roundw
            case rel => exact ⟨1, by omega, by go_num, by rw [HN.out], H8.out.below hbw3 hl8, H9.out.below hbw3 hl9, by repeat' (first | (with_reducible exact Below.refl _ _) | (with_reducible assumption) | (with_reducible refine Below.alloc ?_ ?_ _) | (with_reducible refine Below.drew ?_) | (with_reducible refine Below.setCell ?_ ?_ _) | (with_reducible refine Below.stepB (by assumption) ?_ ?_) | go_size)⟩
            case measure => simp [intOf]
          · have HN : Hid (sep3 s10 s11 s12 1 = decide (s10 ≤ 0)) := by
              show _ = _
              rfl
            go_wp2
            refine wp_region_later (by kernel_rfl) (by kernel_rfl) (fun hlx => ?_)
            repeat (go_big_quiet_step ((go_at_call 65; exact Later.call (X10.out _))))
            refine wpQuiet_nil ?_
            clear hlx
            intro w3 hbw3
            obtain ⟨hzw3, hcw3, hfw3⟩ := bfacts hbw3; (try simp at hzw3 hcw3 hfw3); (try (have : w.heap.size < w3.heap.size := by omega)); (try (have : w.heap.size + 1 < w3.heap.size := by omega)); (try (have : w.heap.size + 1 + 1 < w3.heap.size := by omega)); (try (have : w.heap.size + 1 + 1 + 1 < w3.heap.size := by omega))
            go_wp2
            go_roundw
            case rel => exact ⟨1, by omega, by go_num, by rw [HN.out], H8.out.below hbw3 hl8, H9.out.below hbw3 hl9, by repeat' (first | (with_reducible exact Below.refl _ _) | (with_reducible assumption) | (with_reducible refine Below.alloc ?_ ?_ _) | (with_reducible refine Below.drew ?_) | (with_reducible refine Below.setCell ?_ ?_ _) | (with_reducible refine Below.stepB (by assumption) ?_ ?_) | go_size)⟩
            case measure => simp [intOf]
        · generalize hf : sep3 s10 s11 s12 1 = fl
          have HF := Lib.hid hf
          clear hf
          cases fl
          · have HN : Hid (sep3 s10 s11 s12 2 = false) := by
              show _ = _
              have := HF.out
              revert this
              simp only [sep3]
              intro this
              first | (cases this; done) | simp [this]
            go_wp2
            refine wp_region_later (by kernel_rfl) (by kernel_rfl) (fun hlx => ?_)
            repeat (go_big_quiet_step (fail))
            refine wpQuiet_nil ?_
            clear hlx
            intro w3 hbw3
            obtain ⟨hzw3, hcw3, hfw3⟩ := bfacts hbw3; (try simp at hzw3 hcw3 hfw3); (try (have : w.heap.size < w3.heap.size := by omega)); (try (have : w.heap.size + 1 < w3.heap.size := by omega)); (try (have : w.heap.size + 1 + 1 < w3.heap.size := by omega)); (try (have : w.heap.size + 1 + 1 + 1 < w3.heap.size := by omega))
            go_wp2
            go_roundw
            case rel => exact ⟨2, by omega, by go_num, by rw [HN.out], H8.out.below hbw3 hl8, H9.out.below hbw3 hl9, by repeat' (first | (with_reducible exact Below.refl _ _) | (with_reducible assumption) | (with_reducible refine Below.alloc ?_ ?_ _) | (with_reducible refine Below.drew ?_) | (with_reducible refine Below.setCell ?_ ?_ _) | (with_reducible refine Below.stepB (by assumption) ?_ ?_) | go_size)⟩
            case measure => simp [intOf]
          · have HN : Hid (sep3 s10 s11 s12 2 = decide (s11 ≤ 0)) := by
              show _ = _
              have := HF.out
              revert this
              simp only [sep3]
              intro this
              first | rfl | (simp only [this, Bool.true_and]; done)
            go_wp2
            refine wp_region_later (by kernel_rfl) (by kernel_rfl) (fun hlx => ?_)
            repeat (go_big_quiet_step ((go_at_call 65; exact Later.call (X11.out _))))
            refine wpQuiet_nil ?_
            clear hlx
            intro w3 hbw3
            obtain ⟨hzw3, hcw3, hfw3⟩ := bfacts hbw3; (try simp at hzw3 hcw3 hfw3); (try (have : w.heap.size < w3.heap.size := by omega)); (try (have : w.heap.size + 1 < w3.heap.size := by omega)); (try (have : w.heap.size + 1 + 1 < w3.heap.size := by omega)); (try (have : w.heap.size + 1 + 1 + 1 < w3.heap.size := by omega))
            go_wp2
            go_roundw
            case rel => exact ⟨2, by omega, by go_num, by rw [HN.out], H8.out.below hbw3 hl8, H9.out.below hbw3 hl9, by repeat' (first | (with_reducible exact Below.refl _ _) | (with_reducible assumption) | (with_reducible refine Below.alloc ?_ ?_ _) | (with_reducible refine Below.drew ?_) | (with_reducible refine Below.setCell ?_ ?_ _) | (with_reducible refine Below.stepB (by assumption) ?_ ?_) | go_size)⟩
            case measure => simp [intOf]
        · generalize hf : sep3 s10 s11 s12 2 = fl
          have HF := Lib.hid hf
          clear hf
          cases fl
          · have HN : Hid (sep3 s10 s11 s12 3 = false) := by
              show _ = _
              have := HF.out
              revert this
              simp only [sep3]
              intro this
              first | (cases this; done) | simp [this]
            go_wp2
            refine wp_region_later (by kernel_rfl) (by kernel_rfl) (fun hlx => ?_)
            repeat (go_big_quiet_step (fail))
            refine wpQuiet_nil ?_
            clear hlx
            intro w3 hbw3
            obtain ⟨hzw3, hcw3, hfw3⟩ := bfacts hbw3; (try simp at hzw3 hcw3 hfw3); (try (have : w.heap.size < w3.heap.size := by omega)); (try (have : w.heap.size + 1 < w3.heap.size := by omega)); (try (have : w.heap.size + 1 + 1 < w3.heap.size := by omega)); (try (have : w.heap.size + 1 + 1 + 1 < w3.heap.size := by omega))
            go_wp2
            go_roundw
            case rel => exact ⟨3, by omega, by go_num, by rw [HN.out], H8.out.below hbw3 hl8, H9.out.below hbw3 hl9, by repeat' (first | (with_reducible exact Below.refl _ _) | (with_reducible assumption) | (with_reducible refine Below.alloc ?_ ?_ _) | (with_reducible refine Below.drew ?_) | (with_reducible refine Below.setCell ?_ ?_ _) | (with_reducible refine Below.stepB (by assumption) ?_ ?_) | go_size)⟩
            case measure => simp [intOf]
          · have HN : Hid (sep3 s10 s11 s12 3 = decide (s12 ≤ 0)) := by
              show _ = _
              have := HF.out
              revert this
              simp only [sep3]
              intro this
              first | rfl | (simp only [this, Bool.true_and]; done)
            go_wp2
            refine wp_region_later (by kernel_rfl) (by kernel_rfl) (fun hlx => ?_)
            repeat (go_big_quiet_step ((go_at_call 65; exact Later.call (X12.out _))))
            refine wpQuiet_nil ?_
            clear hlx
            intro w3 hbw3
            obtain ⟨hzw3, hcw3, hfw3⟩ := bfacts hbw3; (try simp at hzw3 hcw3 hfw3); (try (have : w.heap.size < w3.heap.size := by omega)); (try (have : w.heap.size + 1 < w3.heap.size := by omega)); (try (have : w.heap.size + 1 + 1 < w3.heap.size := by omega)); (try (have : w.heap.size + 1 + 1 + 1 < w3.heap.size := by omega))
            go_wp2
            go_roundw
            case rel => exact ⟨3, by omega, by go_num, by rw [HN.out], H8.out.below hbw3 hl8, H9.out.below hbw3 hl9, by repeat' (first | (with_reducible exact Below.refl _ _) | (with_reducible assumption) | (with_reducible refine Below.alloc ?_ ?_ _) | (with_reducible refine Below.drew ?_) | (with_reducible refine Below.setCell ?_ ?_ _) | (with_reducible refine Below.stepB (by assumption) ?_ ?_) | go_size)⟩
            case measure => simp [intOf]
        · generalize hf : sep3 s10 s11 s12 3 = fl
          have HF := Lib.hid hf
          clear hf d0 d1 d2 m0 m1 m2 n0 n1 n2 p0 p1 q0 q1
          have hbw := HBW.out
          cases fl
          · clear hbq
            go_wp2
            go_roundw
            case rel => exact ⟨2, by omega, by go_num, fun _ => g1 (by omega), fun _ => HF.out, fun h => absurd h (by omega), HA2.out, HB2.out, hbw⟩
            case measure => simp [intOf]
          · have HR : Hid (true = res) := by
              show _ = _
              rw [HI.out, HF.out]
              simp
            clear hbq
            go_wp2
            go_ret
            exact ⟨ret_bool HR.out, hbw⟩
    · clear c1 y1 z1
      go_upto_region 4 with fail
      go_cut [8, 9] (fun v8 v9 wx => ∃ g8 g9 : Nat, v8 = .pointer (some ⟨g8, 0, none⟩) ∧ v9 = .pointer (some ⟨g9, 0, none⟩) ∧ Blk wx g8 26 #[.int .i64 (S a2).x, .int .i64 (S a2).y] ∧ Blk wx g9 26 #[.int .i64 (S a0).x, .int .i64 (S a0).y] ∧ Below wr.heap.size wr wx)
      case first =>
        have s1 : IntKind.i64.wrap (((2 : Nat) : Int) + 1) = 3 := by decide
        have s2 : IntKind.i64.wrap ((2 : Int) + 1) = 3 := by decide
        have s3 : IntKind.i64.wrap (3 : Int) = 3 := by decide
        have s4 : (3 : Int).tmod 3 = 0 := by decide
        have s5 : (IntKind.i64.wrap (3 : Int)).tmod 3 = 0 := by decide
        have s6 : IntKind.i64.wrap (0 : Int) = 0 := by decide
        go_region_held3 (fun w' => (w'.cell? ⟨w.heap.size, 2, none⟩ = some (.int .i64 a2) ∧ w'.cell? ⟨w.heap.size, 0, none⟩ = some (.int .i64 a0)) ∧ (w'.cell? ⟨b, off + a2 * 2, none⟩ = some (.int .i64 (S a2).x) ∧ w'.cell? ⟨b, off + a2 * 2 + 1, none⟩ = some (.int .i64 (S a2).y)) ∧ (w'.cell? ⟨b, off + a0 * 2, none⟩ = some (.int .i64 (S a0).x) ∧ w'.cell? ⟨b, off + a0 * 2 + 1, none⟩ = some (.int .i64 (S a0).y))) (first | go_keep | ((try dsimp only); (repeat' apply And.intro) <;> go_keep)) (first | fail)
        all_goals (go_wp2_with fail; go_meet; first | exact ⟨wr.heap.size, wr.heap.size + 1, rfl, rfl, ((blk_newP wr _ _ rfl).alloc _).drew, (blk_newP _ _ _ (by simp)).drew, by repeat' (first | (with_reducible exact Below.refl _ _) | (with_reducible assumption) | (with_reducible refine Below.alloc ?_ ?_ _) | (with_reducible refine Below.drew ?_) | (with_reducible refine Below.setCell ?_ ?_ _) | (with_reducible refine Below.stepB (by assumption) ?_ ?_) | go_size)⟩ | exact ⟨wr.heap.size + 1, wr.heap.size, rfl, rfl, (blk_newP _ _ _ (by simp)).drew, ((blk_newP wr _ _ rfl).alloc _).drew, by repeat' (first | (with_reducible exact Below.refl _ _) | (with_reducible assumption) | (with_reducible refine Below.alloc ?_ ?_ _) | (with_reducible refine Below.drew ?_) | (with_reducible refine Below.setCell ?_ ?_ _) | (with_reducible refine Below.stepB (by assumption) ?_ ?_) | go_size)⟩)
      clear c0 y0 z0 c2 y2 z2
      obtain ⟨g8, g9, rfl, rfl, h8, h9, hbc⟩ := hcut
      have hzc := hbc.size
      have HAC := Lib.hid (HA.out.below hbc hlA)
      have HBC := Lib.hid (HB.out.below hbc hlB)
      have hlAc : w.heap.size < wc.heap.size := by omega
      have hlBc : w.heap.size + 1 < wc.heap.size := by omega
      have HBRC : Hid (Below w.heap.size w wc) := HBR.out.trans (hbc.mono (by omega))
      clear hbc
      go_wp2
      go_loopw [10, 11] (fun v6 v13 wq => ∃ j : Nat, j ≤ 3 ∧ v13 = .int .i64 j ∧ v6 = .bool (sep3 s20 s21 s22 j) ∧ Blk wq g8 26 #[.int .i64 (S a2).x, .int .i64 (S a2).y] ∧ Blk wq g9 26 #[.int .i64 (S a0).x, .int .i64 (S a0).y] ∧ Below wc.heap.size wc wq) (fun _ v13 _ => 3 - (intOf v13).toNat)
      case atStart => exact ⟨0, by omega, rfl, rfl, h8, h9, Below.refl _ _⟩
      case round =>
        rename World => wq
        clear h8 h9
        obtain ⟨j, hj, rfl, rfl, h8, h9, hbq⟩ := hrel
        have hzq := hbq.size
        have hl8 := h8.lt
        have hl9 := h9.lt
        have H8 := Lib.hid h8
        have H9 := Lib.hid h9
        have hA := HAC.out.below hbq hlAc
        have hB := HBC.out.below hbq hlBc
        have hlA2 := hA.lt
        have hlB2 := hB.lt
        have HA2 := Lib.hid hA
        have HB2 := Lib.hid hB
        obtain ⟨_, p0, p1⟩ := h8.two
        obtain ⟨_, q0, q1⟩ := h9.two
        have hbw : Below w.heap.size w wq := HBRC.out.trans (hbq.mono (by omega))
        have hSq : SlSP wq (some ⟨b, off, none⟩) n S := HS.out.below hbw
        have d0 : wq.cell? ⟨w.heap.size + 1, 0, none⟩ = some (.int .i64 b0) := hB.cell 0
        obtain ⟨hbq0, m0, n0⟩ := hSq.pt hb0
        have d1 : wq.cell? ⟨w.heap.size + 1, 1, none⟩ = some (.int .i64 b1) := hB.cell 1
        obtain ⟨hbq1, m1, n1⟩ := hSq.pt hb1
        have d2 : wq.cell? ⟨w.heap.size + 1, 2, none⟩ = some (.int .i64 b2) := hB.cell 2
        obtain ⟨hbq2, m2, n2⟩ := hSq.pt hb2
        have HBW := Lib.hid hbw
        clear hA hB h8 h9 hbw hSq hbq1 hbq2
        obtain rfl | rfl | rfl | rfl : j = 0 ∨ j = 1 ∨ j = 2 ∨ j = 3 := by omega
        · generalize hf : sep3 s20 s21 s22 0 = fl
          have HF := Lib.hid hf
          clear hf
          cases fl
          · have HN : Hid (sep3 s20 s21 s22 1 = false) := by
              show _ = _
              have := HF.out
              revert this
              simp only [sep3]
              intro this
              first | (cases this; done) | simp [this]
            go_wp2
            refine wp_region_later (by kernel_rfl) (by kernel_rfl) (fun hlx => ?_)
            repeat (go_big_quiet_step (fail))
            refine wpQuiet_nil ?_
            clear hlx
            intro w3 hbw3
            obtain ⟨hzw3, hcw3, hfw3⟩ := bfacts hbw3; (try simp at hzw3 hcw3 hfw3); (try (have : w.heap.size < w3.heap.size := by omega)); (try (have : w.heap.size + 1 < w3.heap.size := by omega)); (try (have : w.heap.size + 1 + 1 < w3.heap.size := by omega)); (try (have : w.heap.size + 1 + 1 + 1 < w3.heap.size := by omega))
            go_wp2
            go_roundw
            case rel => exact ⟨1, by omega, by go_num, by rw [HN.out], H8.out.below hbw3 hl8, H9.out.below hbw3 hl9, by repeat' (first | (with_reducible exact Below.refl _ _) | (with_reducible assumption) | (with_reducible refine Below.alloc ?_ ?_ _) | (with_reducible refine Below.drew ?_) | (with_reducible refine Below.setCell ?_ ?_ _) | (with_reducible refine Below.stepB (by assumption) ?_ ?_) | go_size)⟩
            case measure => simp [intOf]
          · have HN : Hid (sep3 s20 s21 s22 1 = decide (s20 ≤ 0)) := by
              show _ = _
              rfl
            go_wp2
            refine wp_region_later (by kernel_rfl) (by kernel_rfl) (fun hlx => ?_)
            repeat (go_big_quiet_step ((go_at_call 65; exact Later.call (X20.out _))))
            refine wpQuiet_nil ?_
            clear hlx
            intro w3 hbw3
            obtain ⟨hzw3, hcw3, hfw3⟩ := bfacts hbw3; (try simp at hzw3 hcw3 hfw3); (try (have : w.heap.size < w3.heap.size := by omega)); (try (have : w.heap.size + 1 < w3.heap.size := by omega)); (try (have : w.heap.size + 1 + 1 < w3.heap.size := by omega)); (try (have : w.heap.size + 1 + 1 + 1 < w3.heap.size := by omega))
            go_wp2
            go_roundw
            case rel => exact ⟨1, by omega, by go_num, by rw [HN.out], H8.out.below hbw3 hl8, H9.out.below hbw3 hl9, by repeat' (first | (with_reducible exact Below.refl _ _) | (with_reducible assumption) | (with_reducible refine Below.alloc ?_ ?_ _) | (with_reducible refine Below.drew ?_) | (with_reducible refine Below.setCell ?_ ?_ _) | (with_reducible refine Below.stepB (by assumption) ?_ ?_) | go_size)⟩
            case measure => simp [intOf]
        · generalize hf : sep3 s20 s21 s22 1 = fl
          have HF := Lib.hid hf
          clear hf
          cases fl
          · have HN : Hid (sep3 s20 s21 s22 2 = false) := by
              show _ = _
              have := HF.out
              revert this
              simp only [sep3]
              intro this
              first | (cases this; done) | simp [this]
            go_wp2
            refine wp_region_later (by kernel_rfl) (by kernel_rfl) (fun hlx => ?_)
            repeat (go_big_quiet_step (fail))
            refine wpQuiet_nil ?_
            clear hlx
            intro w3 hbw3
            obtain ⟨hzw3, hcw3, hfw3⟩ := bfacts hbw3; (try simp at hzw3 hcw3 hfw3); (try (have : w.heap.size < w3.heap.size := by omega)); (try (have : w.heap.size + 1 < w3.heap.size := by omega)); (try (have : w.heap.size + 1 + 1 < w3.heap.size := by omega)); (try (have : w.heap.size + 1 + 1 + 1 < w3.heap.size := by omega))
            go_wp2
            go_roundw
            case rel => exact ⟨2, by omega, by go_num, by rw [HN.out], H8.out.below hbw3 hl8, H9.out.below hbw3 hl9, by repeat' (first | (with_reducible exact Below.refl _ _) | (with_reducible assumption) | (with_reducible refine Below.alloc ?_ ?_ _) | (with_reducible refine Below.drew ?_) | (with_reducible refine Below.setCell ?_ ?_ _) | (with_reducible refine Below.stepB (by assumption) ?_ ?_) | go_size)⟩
            case measure => simp [intOf]
          · have HN : Hid (sep3 s20 s21 s22 2 = decide (s21 ≤ 0)) := by
              show _ = _
              have := HF.out
              revert this
              simp only [sep3]
              intro this
              first | rfl | (simp only [this, Bool.true_and]; done)
            go_wp2
            refine wp_region_later (by kernel_rfl) (by kernel_rfl) (fun hlx => ?_)
            repeat (go_big_quiet_step ((go_at_call 65; exact Later.call (X21.out _))))
            refine wpQuiet_nil ?_
            clear hlx
            intro w3 hbw3
            obtain ⟨hzw3, hcw3, hfw3⟩ := bfacts hbw3; (try simp at hzw3 hcw3 hfw3); (try (have : w.heap.size < w3.heap.size := by omega)); (try (have : w.heap.size + 1 < w3.heap.size := by omega)); (try (have : w.heap.size + 1 + 1 < w3.heap.size := by omega)); (try (have : w.heap.size + 1 + 1 + 1 < w3.heap.size := by omega))
            go_wp2
            go_roundw
            case rel => exact ⟨2, by omega, by go_num, by rw [HN.out], H8.out.below hbw3 hl8, H9.out.below hbw3 hl9, by repeat' (first | (with_reducible exact Below.refl _ _) | (with_reducible assumption) | (with_reducible refine Below.alloc ?_ ?_ _) | (with_reducible refine Below.drew ?_) | (with_reducible refine Below.setCell ?_ ?_ _) | (with_reducible refine Below.stepB (by assumption) ?_ ?_) | go_size)⟩
            case measure => simp [intOf]
        · generalize hf : sep3 s20 s21 s22 2 = fl
          have HF := Lib.hid hf
          clear hf
          cases fl
          · have HN : Hid (sep3 s20 s21 s22 3 = false) := by
              show _ = _
              have := HF.out
              revert this
              simp only [sep3]
              intro this
              first | (cases this; done) | simp [this]
            go_wp2
            refine wp_region_later (by kernel_rfl) (by kernel_rfl) (fun hlx => ?_)
            repeat (go_big_quiet_step (fail))
            refine wpQuiet_nil ?_
            clear hlx
            intro w3 hbw3
            obtain ⟨hzw3, hcw3, hfw3⟩ := bfacts hbw3; (try simp at hzw3 hcw3 hfw3); (try (have : w.heap.size < w3.heap.size := by omega)); (try (have : w.heap.size + 1 < w3.heap.size := by omega)); (try (have : w.heap.size + 1 + 1 < w3.heap.size := by omega)); (try (have : w.heap.size + 1 + 1 + 1 < w3.heap.size := by omega))
            go_wp2
            go_roundw
            case rel => exact ⟨3, by omega, by go_num, by rw [HN.out], H8.out.below hbw3 hl8, H9.out.below hbw3 hl9, by repeat' (first | (with_reducible exact Below.refl _ _) | (with_reducible assumption) | (with_reducible refine Below.alloc ?_ ?_ _) | (with_reducible refine Below.drew ?_) | (with_reducible refine Below.setCell ?_ ?_ _) | (with_reducible refine Below.stepB (by assumption) ?_ ?_) | go_size)⟩
            case measure => simp [intOf]
          · have HN : Hid (sep3 s20 s21 s22 3 = decide (s22 ≤ 0)) := by
              show _ = _
              have := HF.out
              revert this
              simp only [sep3]
              intro this
              first | rfl | (simp only [this, Bool.true_and]; done)
            go_wp2
            refine wp_region_later (by kernel_rfl) (by kernel_rfl) (fun hlx => ?_)
            repeat (go_big_quiet_step ((go_at_call 65; exact Later.call (X22.out _))))
            refine wpQuiet_nil ?_
            clear hlx
            intro w3 hbw3
            obtain ⟨hzw3, hcw3, hfw3⟩ := bfacts hbw3; (try simp at hzw3 hcw3 hfw3); (try (have : w.heap.size < w3.heap.size := by omega)); (try (have : w.heap.size + 1 < w3.heap.size := by omega)); (try (have : w.heap.size + 1 + 1 < w3.heap.size := by omega)); (try (have : w.heap.size + 1 + 1 + 1 < w3.heap.size := by omega))
            go_wp2
            go_roundw
            case rel => exact ⟨3, by omega, by go_num, by rw [HN.out], H8.out.below hbw3 hl8, H9.out.below hbw3 hl9, by repeat' (first | (with_reducible exact Below.refl _ _) | (with_reducible assumption) | (with_reducible refine Below.alloc ?_ ?_ _) | (with_reducible refine Below.drew ?_) | (with_reducible refine Below.setCell ?_ ?_ _) | (with_reducible refine Below.stepB (by assumption) ?_ ?_) | go_size)⟩
            case measure => simp [intOf]
        · generalize hf : sep3 s20 s21 s22 3 = fl
          have HF := Lib.hid hf
          clear hf d0 d1 d2 m0 m1 m2 n0 n1 n2 p0 p1 q0 q1
          have hbw := HBW.out
          cases fl
          · clear hbq
            go_wp2
            go_roundw
            case rel => exact ⟨3, by omega, by go_num, fun _ => g1 (by omega), fun _ => g2 (by omega), fun _ => HF.out, HA2.out, HB2.out, hbw⟩
            case measure => simp [intOf]
          · have HR : Hid (true = res) := by
              show _ = _
              rw [HI.out, HF.out]
              simp
            clear hbq
            go_wp2
            go_ret
            exact ⟨ret_bool HR.out, hbw⟩
    · have HR : Hid (false = res) := by
        show _ = _
        rw [HI.out, show sep3 s00 s01 s02 3 = false from g1 (by omega), show sep3 s10 s11 s12 3 = false from g2 (by omega), show sep3 s20 s21 s22 3 = false from g3 (by omega)]
        rfl
      clear c0 c1 c2 y0 y1 y2 z0 z1 z2
      have hbr := HBR.out
      go_wp2
      go_ret
      exact ⟨ret_bool HR.out, hbr⟩
end Go.Proofs.Ytfflbkmncnaffaa
