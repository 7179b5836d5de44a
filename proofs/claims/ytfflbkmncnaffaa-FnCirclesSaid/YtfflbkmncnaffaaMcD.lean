/- Contracts: the drawn arguments of the law on circles. -/
import Derived.Test.YtfflbkmncnaffaaMsC
import Derived.Test.YtfflbkmncnaffaaCurTM
namespace Go.Proofs.Ytfflbkmncnaffaa
section
open Go.RowKit
theorem sd_put {w : World} {lo b n i : Nat} {f : Nat → SD} {x y : Int} (h : Own w lo 5 (some ⟨b, 0, none⟩) n (fun i j => (f i).cell j)) :
    Own ((w.setCell ⟨b, i * 5 + 1, none⟩ (.int .i64 x)).setCell ⟨b, i * 5 + 2, none⟩ (.int .i64 y)) lo 5 (some ⟨b, 0, none⟩) n (fun q j => ((fun q => if q = i then ({ f i with x := x, y := y } : SD) else f q) q).cell j) := by
  refine Own.congr ((h.set (i := i) (j := 1) (by decide)).set (i := i) (j := 2) (by decide)) (fun q j _ hj => ?_)
  by_cases hq : q = i
  · subst hq
    have : j = 0 ∨ j = 1 ∨ j = 2 ∨ j = 3 ∨ j = 4 := by omega
    rcases this with rfl | rfl | rfl | rfl | rfl <;> simp [SD.cell]
  · simp [hq]
theorem sd_depth {w : World} {lo b n i : Nat} {f : Nat → SD} {z : Int} (h : Own w lo 5 (some ⟨b, 0, none⟩) n (fun i j => (f i).cell j)) :
    Own (w.setCell ⟨b, i * 5 + 3, none⟩ (.int .i64 z)) lo 5 (some ⟨b, 0, none⟩) n (fun q j => ((fun q => if q = i then ({ f i with depth := z } : SD) else f q) q).cell j) := by
  refine Own.congr (h.set (i := i) (j := 3) (by decide)) (fun q j _ hj => ?_)
  by_cases hq : q = i
  · subst hq
    have : j = 0 ∨ j = 1 ∨ j = 2 ∨ j = 3 ∨ j = 4 := by omega
    rcases this with rfl | rfl | rfl | rfl | rfl <;> simp [SD.cell]
  · simp [hq]
set_option maxHeartbeats 4000000 in
theorem DrawIsInCircle_any (n c : Nat) (A : Option Addr) (B : Nat → Int) (w : World) (hR : ∀ i, 0 ≤ B i ∧ B i ≤ 255) (hS : Sl w 1 A n (fun i _ => .int .u8 (B i))) (hn : n ≤ 65536) :
    Calls Try.prog 34 #[.slice A n c] w fun e w' => ∃ x1 y1 x2 y2 x3 y3 x4 y4 : Int, e = .returned (.tuple #[.agg #[.int .i64 x1, .int .i64 y1], .agg #[.int .i64 x2, .int .i64 y2], .agg #[.int .i64 x3, .int .i64 y3], .agg #[.int .i64 x4, .int .i64 y4]]) ∧ Below w.heap.size w w' := by
  have HR := Lib.hid hR
  have HS := Lib.hid hS
  clear hR hS
  have HCU := Lib.hid (curS_new (W := ((((w.alloc (.cells #[.int .i64 0, .int .i64 0] 26)).alloc (.cells #[.int .i64 0, .int .i64 0] 26)).alloc (.cells #[.int .i64 0, .int .i64 0] 26)).alloc (.cells #[.int .i64 0, .int .i64 0] 26)).alloc (.cells #[.slice A n c, .int .i64 0, .int .u64 0] 99)) (b := w.heap.size + 1 + 1 + 1 + 1) (c := c) (blk_newC _ (by simp)) HR.out HS.out (by repeat' (first | (with_reducible exact Below.refl _ _) | (with_reducible assumption) | (with_reducible refine Below.alloc ?_ ?_ _) | (with_reducible refine Below.drew ?_) | (with_reducible refine Below.setCell ?_ ?_ _) | (with_reducible refine Below.stepB (by assumption) ?_ ?_) | go_size)) (by omega))
  go_enter Try.func34, Try.ntmps34
  go_wp2_with fail
  refine (spot_any (w.heap.size + 1 + 1 + 1 + 1) A n c 0 _ HCU.out (by decide) (by omega)).mono ?_
  rintro e w1 ⟨x1, y1, rfl, hD⟩
  have HT1 := Lib.hid (Blk.keptC (((((blk_newC (g := w.heap.size) (t := 26) (cs := #[.int .i64 0, .int .i64 0]) w rfl).alloc _).alloc _).alloc _).alloc _) hD.2 (by omega))
  have HU1 := Lib.hid (Blk.keptC ((((blk_newC (g := w.heap.size + 1) (t := 26) (cs := #[.int .i64 0, .int .i64 0]) (w.alloc (.cells #[.int .i64 0, .int .i64 0] 26)) (by simp)).alloc _).alloc _).alloc _) hD.2 (by omega))
  have HV1 := Lib.hid (Blk.keptC (((blk_newC (g := w.heap.size + 1 + 1) (t := 26) (cs := #[.int .i64 0, .int .i64 0]) ((w.alloc (.cells #[.int .i64 0, .int .i64 0] 26)).alloc (.cells #[.int .i64 0, .int .i64 0] 26)) (by simp)).alloc _).alloc _) hD.2 (by omega))
  have HX1 := Lib.hid (Blk.keptC ((blk_newC (g := w.heap.size + 1 + 1 + 1) (t := 26) (cs := #[.int .i64 0, .int .i64 0]) (((w.alloc (.cells #[.int .i64 0, .int .i64 0] 26)).alloc (.cells #[.int .i64 0, .int .i64 0] 26)).alloc (.cells #[.int .i64 0, .int .i64 0] 26)) (by simp)).alloc _) hD.2 (by omega))
  have HB1 := Lib.hid ((show Below w.heap.size w _ from by repeat' (first | (with_reducible exact Below.refl _ _) | (with_reducible assumption) | (with_reducible refine Below.alloc ?_ ?_ _) | (with_reducible refine Below.drew ?_) | (with_reducible refine Below.setCell ?_ ?_ _) | (with_reducible refine Below.stepB (by assumption) ?_ ?_) | go_size)).trans (hD.2.lowB (B := w.heap.size) (by omega) (by simp; omega)))
  have HC1 := Lib.hid hD.1
  have hz1 := hD.2.size
  (try simp at hz1)
  clear hD HCU
  go_wp2_with fail
  refine (spot_any (w.heap.size + 1 + 1 + 1 + 1) A n c 8 _ HC1.out (by decide) (by omega)).mono ?_
  rintro e w2 ⟨x2, y2, rfl, hD⟩
  have HT2 := Lib.hid (Blk.keptC HT1.out hD.2 (by omega))
  have HU2 := Lib.hid (Blk.keptC HU1.out hD.2 (by omega))
  have HV2 := Lib.hid (Blk.keptC HV1.out hD.2 (by omega))
  have HX2 := Lib.hid (Blk.keptC HX1.out hD.2 (by omega))
  have HB2 := Lib.hid (HB1.out.trans (hD.2.lowB (B := w.heap.size) (by omega) (by omega)))
  have HC2 := Lib.hid hD.1
  have hz2 := hD.2.size
  clear hD
  go_wp2_with fail
  refine (spot_any (w.heap.size + 1 + 1 + 1 + 1) A n c 16 _ HC2.out (by decide) (by omega)).mono ?_
  rintro e w3 ⟨x3, y3, rfl, hD⟩
  have HT3 := Lib.hid (Blk.keptC HT2.out hD.2 (by omega))
  have HU3 := Lib.hid (Blk.keptC HU2.out hD.2 (by omega))
  have HV3 := Lib.hid (Blk.keptC HV2.out hD.2 (by omega))
  have HX3 := Lib.hid (Blk.keptC HX2.out hD.2 (by omega))
  have HB3 := Lib.hid (HB2.out.trans (hD.2.lowB (B := w.heap.size) (by omega) (by omega)))
  have HC3 := Lib.hid hD.1
  have hz3 := hD.2.size
  clear hD
  go_wp2_with fail
  refine (spot_any (w.heap.size + 1 + 1 + 1 + 1) A n c 24 _ HC3.out (by decide) (by omega)).mono ?_
  rintro e w4 ⟨x4, y4, rfl, hD⟩
  have HT4 := Lib.hid (Blk.keptC HT3.out hD.2 (by omega))
  have HU4 := Lib.hid (Blk.keptC HU3.out hD.2 (by omega))
  have HV4 := Lib.hid (Blk.keptC HV3.out hD.2 (by omega))
  have HX4 := Lib.hid (Blk.keptC HX3.out hD.2 (by omega))
  have HB4 := Lib.hid (HB3.out.trans (hD.2.lowB (B := w.heap.size) (by omega) (by omega)))
  have HC4 := Lib.hid hD.1
  have hz4 := hD.2.size
  clear hD
  have n1 : w.heap.size + 1 ≠ w.heap.size := by omega
  have n2 : w.heap.size ≠ w.heap.size + 1 := by omega
  have n3 : w.heap.size + 1 + 1 ≠ w.heap.size := by omega
  have n4 : w.heap.size ≠ w.heap.size + 1 + 1 := by omega
  have n5 : w.heap.size + 1 + 1 + 1 ≠ w.heap.size := by omega
  have n6 : w.heap.size ≠ w.heap.size + 1 + 1 + 1 := by omega
  have n7 : w.heap.size + 1 + 1 ≠ w.heap.size + 1 := by omega
  have n8 : w.heap.size + 1 ≠ w.heap.size + 1 + 1 := by omega
  have n9 : w.heap.size + 1 + 1 + 1 ≠ w.heap.size + 1 := by omega
  have n10 : w.heap.size + 1 ≠ w.heap.size + 1 + 1 + 1 := by omega
  have n11 : w.heap.size + 1 + 1 + 1 ≠ w.heap.size + 1 + 1 := by omega
  have n12 : w.heap.size + 1 + 1 ≠ w.heap.size + 1 + 1 + 1 := by omega
  have a0 : ∀ v0 : Value, (w4.setCell ⟨w.heap.size, 0, none⟩ v0).cell? ⟨w.heap.size, 0, none⟩ = some v0 := fun v0 => (HT4.out.set_ 0 v0).cell 0
  have a1 : ∀ v0 v1 : Value, ((w4.setCell ⟨w.heap.size, 0, none⟩ v0).setCell ⟨w.heap.size, 1, none⟩ v1).cell? ⟨w.heap.size, 1, none⟩ = some v1 := fun v0 v1 => ((HT4.out.set_ 0 v0).set_ 1 v1).cell 1
  have at0 : w4.cell? ⟨w.heap.size, 0, none⟩ = some (.int .i64 0) := HT4.out.cell 0
  have at1 : w4.cell? ⟨w.heap.size, 1, none⟩ = some (.int .i64 0) := HT4.out.cell 1
  have af := HT4.out.frozen
  have al := HT4.out.lt
  have b0 : ∀ v0 : Value, (w4.setCell ⟨(w.heap.size + 1), 0, none⟩ v0).cell? ⟨(w.heap.size + 1), 0, none⟩ = some v0 := fun v0 => (HU4.out.set_ 0 v0).cell 0
  have b1 : ∀ v0 v1 : Value, ((w4.setCell ⟨(w.heap.size + 1), 0, none⟩ v0).setCell ⟨(w.heap.size + 1), 1, none⟩ v1).cell? ⟨(w.heap.size + 1), 1, none⟩ = some v1 := fun v0 v1 => ((HU4.out.set_ 0 v0).set_ 1 v1).cell 1
  have bt0 : w4.cell? ⟨(w.heap.size + 1), 0, none⟩ = some (.int .i64 0) := HU4.out.cell 0
  have bt1 : w4.cell? ⟨(w.heap.size + 1), 1, none⟩ = some (.int .i64 0) := HU4.out.cell 1
  have bf := HU4.out.frozen
  have bl := HU4.out.lt
  have c0 : ∀ v0 : Value, (w4.setCell ⟨(w.heap.size + 1 + 1), 0, none⟩ v0).cell? ⟨(w.heap.size + 1 + 1), 0, none⟩ = some v0 := fun v0 => (HV4.out.set_ 0 v0).cell 0
  have c1 : ∀ v0 v1 : Value, ((w4.setCell ⟨(w.heap.size + 1 + 1), 0, none⟩ v0).setCell ⟨(w.heap.size + 1 + 1), 1, none⟩ v1).cell? ⟨(w.heap.size + 1 + 1), 1, none⟩ = some v1 := fun v0 v1 => ((HV4.out.set_ 0 v0).set_ 1 v1).cell 1
  have ct0 : w4.cell? ⟨(w.heap.size + 1 + 1), 0, none⟩ = some (.int .i64 0) := HV4.out.cell 0
  have ct1 : w4.cell? ⟨(w.heap.size + 1 + 1), 1, none⟩ = some (.int .i64 0) := HV4.out.cell 1
  have cf := HV4.out.frozen
  have cl := HV4.out.lt
  have d0 : ∀ v0 : Value, (w4.setCell ⟨(w.heap.size + 1 + 1 + 1), 0, none⟩ v0).cell? ⟨(w.heap.size + 1 + 1 + 1), 0, none⟩ = some v0 := fun v0 => (HX4.out.set_ 0 v0).cell 0
  have d1 : ∀ v0 v1 : Value, ((w4.setCell ⟨(w.heap.size + 1 + 1 + 1), 0, none⟩ v0).setCell ⟨(w.heap.size + 1 + 1 + 1), 1, none⟩ v1).cell? ⟨(w.heap.size + 1 + 1 + 1), 1, none⟩ = some v1 := fun v0 v1 => ((HX4.out.set_ 0 v0).set_ 1 v1).cell 1
  have dt0 : w4.cell? ⟨(w.heap.size + 1 + 1 + 1), 0, none⟩ = some (.int .i64 0) := HX4.out.cell 0
  have dt1 : w4.cell? ⟨(w.heap.size + 1 + 1 + 1), 1, none⟩ = some (.int .i64 0) := HX4.out.cell 1
  have df := HX4.out.frozen
  have dl := HX4.out.lt
  go_wp2_with fail
  have K0 := ((((((((HT4.out.set_ 0 (.int .i64 x1)).set_ 1 (.int .i64 y1)).far (p := ⟨w.heap.size + 1, 0, none⟩) n2 (.int .i64 x2)).far (p := ⟨w.heap.size + 1, 1, none⟩) n2 (.int .i64 y2)).far (p := ⟨w.heap.size + 1 + 1, 0, none⟩) n4 (.int .i64 x3)).far (p := ⟨w.heap.size + 1 + 1, 1, none⟩) n4 (.int .i64 y3)).far (p := ⟨w.heap.size + 1 + 1 + 1, 0, none⟩) n6 (.int .i64 x4)).far (p := ⟨w.heap.size + 1 + 1 + 1, 1, none⟩) n6 (.int .i64 y4))
  have g0 := K0.cell 0
  have g1 := K0.cell 1
  have K1 := ((((((((HU4.out.far (p := ⟨w.heap.size, 0, none⟩) n1 (.int .i64 x1)).far (p := ⟨w.heap.size, 1, none⟩) n1 (.int .i64 y1)).set_ 0 (.int .i64 x2)).set_ 1 (.int .i64 y2)).far (p := ⟨w.heap.size + 1 + 1, 0, none⟩) n8 (.int .i64 x3)).far (p := ⟨w.heap.size + 1 + 1, 1, none⟩) n8 (.int .i64 y3)).far (p := ⟨w.heap.size + 1 + 1 + 1, 0, none⟩) n10 (.int .i64 x4)).far (p := ⟨w.heap.size + 1 + 1 + 1, 1, none⟩) n10 (.int .i64 y4))
  have g2 := K1.cell 0
  have g3 := K1.cell 1
  have K2 := ((((((((HV4.out.far (p := ⟨w.heap.size, 0, none⟩) n3 (.int .i64 x1)).far (p := ⟨w.heap.size, 1, none⟩) n3 (.int .i64 y1)).far (p := ⟨w.heap.size + 1, 0, none⟩) n7 (.int .i64 x2)).far (p := ⟨w.heap.size + 1, 1, none⟩) n7 (.int .i64 y2)).set_ 0 (.int .i64 x3)).set_ 1 (.int .i64 y3)).far (p := ⟨w.heap.size + 1 + 1 + 1, 0, none⟩) n12 (.int .i64 x4)).far (p := ⟨w.heap.size + 1 + 1 + 1, 1, none⟩) n12 (.int .i64 y4))
  have g4 := K2.cell 0
  have g5 := K2.cell 1
  have K3 := ((((((((HX4.out.far (p := ⟨w.heap.size, 0, none⟩) n5 (.int .i64 x1)).far (p := ⟨w.heap.size, 1, none⟩) n5 (.int .i64 y1)).far (p := ⟨w.heap.size + 1, 0, none⟩) n9 (.int .i64 x2)).far (p := ⟨w.heap.size + 1, 1, none⟩) n9 (.int .i64 y2)).far (p := ⟨w.heap.size + 1 + 1, 0, none⟩) n11 (.int .i64 x3)).far (p := ⟨w.heap.size + 1 + 1, 1, none⟩) n11 (.int .i64 y3)).set_ 0 (.int .i64 x4)).set_ 1 (.int .i64 y4))
  have g6 := K3.cell 0
  have g7 := K3.cell 1
  simp at g0 g1 g2 g3 g4 g5 g6 g7
  (try simp only [Exit.inBlock, Exit.then])
  refine bodyPost_ret (by simp [results, Try.results34, go_sem, g0, g1, g2, g3, g4, g5, g6, g7]; try rfl) rfl ?_
  have hb := HB4.out
  refine ⟨x1, y1, x2, y2, x3, y3, x4, y4, rfl, ?_⟩
  repeat' (first | (with_reducible exact Below.refl _ _) | (with_reducible assumption) | (with_reducible refine Below.alloc ?_ ?_ _) | (with_reducible refine Below.drew ?_) | (with_reducible refine Below.setCell ?_ ?_ _) | (with_reducible refine Below.stepB (by assumption) ?_ ?_) | go_size)
end
section
open Go.RowKit
theorem Own.farHi {w : World} {lo hi k n b : Nat} {g : Nat → Nat → Value} (h : Own w lo k (some ⟨b, 0, none⟩) n g) (hb : 0 < n → b < hi) {p : Addr} (hp : hi ≤ p.block) (u : Value) : Own (w.setCell p u) lo k (some ⟨b, 0, none⟩) n g := fun hn => by
  obtain ⟨b', t, cs, hA, hl, hB, hs, hc⟩ := h hn
  have h1 := hb hn
  obtain rfl : b = b' := by simpa using hA
  exact ⟨b, t, cs, rfl, hl, hB.far (by omega) u, hs, hc⟩
set_option maxRecDepth 100000 in
set_option maxHeartbeats 8000000 in
theorem DrawTooDeep_any (n c : Nat) (A : Option Addr) (B : Nat → Int) (w : World) (hR : ∀ i, 0 ≤ B i ∧ B i ≤ 255) (hS : Sl w 1 A n (fun i _ => .int .u8 (B i))) (hn : n ≤ 65536) :
    Calls Try.prog 39 #[.slice A n c] w fun e w' => ∃ (p b1 c1 : Nat) (S : Nat → SP) (m b2 c2 : Nat) (T : Nat → Nat → Int) (d b3 c3 : Nat) (L : Nat → Int) (q b4 c4 : Nat) (f : Nat → SD), e = .returned (.tuple #[.slice (some ⟨b1, 0, none⟩) p c1, .slice (some ⟨b2, 0, none⟩) m c2, .slice (some ⟨b3, 0, none⟩) d c3, .slice (some ⟨b4, 0, none⟩) q c4]) ∧ p ≤ 6 ∧ p ≤ c1 ∧ m ≤ 9 ∧ m ≤ c2 ∧ SlSP w' (some ⟨b1, 0, none⟩) p S ∧ SlT w' (some ⟨b2, 0, none⟩) m T ∧ d ≤ 21 ∧ SlI w' (some ⟨b3, 0, none⟩) d L ∧ q ≤ 13 ∧ SlSD w' (some ⟨b4, 0, none⟩) q f ∧ Below w.heap.size w w' := by
  have HON := Lib.hid (fun b K' (m : Int) W (hK : K' ≤ 999990) (hC : CurS W b A n c K') (hm : m ≤ 100000) => one_any b A n c K' m W hC hK (by omega) hm)
  have HNE := Lib.hid (fun b K' W (hK : K' ≤ 999800) (hC : CurS W b A n c K') => near15_any b A n c K' W hC hK (by omega))
  have HAM := Lib.hid (fun b K' g m c2 ls W (hK : K' ≤ 999990) (hC : CurS W b A n c K') hB hg hm0 hm hl => among_any b A n c K' g m c2 ls W hC hK (by omega) hB hg hm0 hm hl)
  have HR := Lib.hid hR
  have HS := Lib.hid hS
  clear hR hS
  go_enter Try.func39, Try.ntmps39
  go_wp2_with fail
  refine (mesh_any w.heap.size A n c 0 _ (curS_new (blk_newC w rfl) HR.out HS.out (by repeat' (first | (with_reducible exact Below.refl _ _) | (with_reducible assumption) | (with_reducible refine Below.alloc ?_ ?_ _) | (with_reducible refine Below.drew ?_) | (with_reducible refine Below.setCell ?_ ?_ _) | (with_reducible refine Below.stepB (by assumption) ?_ ?_) | go_size)) (Nat.le_refl _)) (by decide) (by omega)).mono ?_
  rintro e w1 ⟨p, b1, c1, S, m, b2, c2, T, rfl, hp, hpc, hm, hmc, hO, hP, hD⟩
  have HB1 := Lib.hid ((show Below w.heap.size w _ from by repeat' (first | (with_reducible exact Below.refl _ _) | (with_reducible assumption) | (with_reducible refine Below.alloc ?_ ?_ _) | (with_reducible refine Below.drew ?_) | (with_reducible refine Below.setCell ?_ ?_ _) | (with_reducible refine Below.stepB (by assumption) ?_ ?_) | go_size)).trans (hD.2.lowB (Nat.le_refl _) (by simp)))
  have HO1 := Lib.hid (hO.more (lo' := w.heap.size + 1) (by simp))
  have HP1 := Lib.hid (hP.more (lo' := w.heap.size + 1) (by simp))
  have HC1 := Lib.hid hD.1
  have hz1 := hD.2.size
  (try simp at hz1)
  have HX := Lib.hid (fun h0 : 0 < p => (hO.free h0).1)
  have HY := Lib.hid (fun h0 : 0 < m => (hP.free h0).1)
  clear hO hP hD
  go_wp2_with fail
  refine (soundings_any w.heap.size A n c 100 w1 HC1.out (by decide) (by omega)).mono ?_
  rintro e w2 ⟨q, b4, c4, f, rfl, hq, hF, hD⟩
  have HO2 := Lib.hid (Own.keptC HO1.out hD.2 (by omega))
  have HP2 := Lib.hid (Own.keptC HP1.out hD.2 (by omega))
  have HB2 := Lib.hid (HB1.out.trans (hD.2.lowB (B := w.heap.size) (by omega) (by omega)))
  have HC2 := Lib.hid hD.1
  have HF2 := Lib.hid hF
  have hz2 := hD.2.size
  clear hD hF
  go_wp2
  go_loopw [10] (fun v10 wr => ∃ (i : Nat) (f : Nat → SD), i ≤ q ∧ v10 = .int .i64 i ∧ Hid (Own wr w1.heap.size 5 (some ⟨b4, 0, none⟩) q (fun i j => (f i).cell j)) ∧ Hid (Own wr (w.heap.size + 1) 2 (some ⟨b1, 0, none⟩) p (fun i j => (S i).cell j)) ∧ Hid (Own wr (w.heap.size + 1) 3 (some ⟨b2, 0, none⟩) m (fun i j => .int .i64 (T i j))) ∧ Hid (CurS wr w.heap.size A n c (400 + 20 * i)) ∧ Hid (Below w.heap.size w wr) ∧ w1.heap.size ≤ wr.heap.size) (fun v10 _ => q - (intOf v10).toNat)
  case atStart => exact ⟨0, f, by omega, rfl, HF2.out, HO2.out, HP2.out, HC2.out.more (by omega), HB2.out, by omega⟩
  case round =>
    clear HF2 HO2 HP2 HC2 HB2 f
    obtain ⟨i, f, hi, rfl, hF, hO, hP, hC, hB, hzr⟩ := hrel
    by_cases hlt : i < q
    · go_wp2_with fail
      refine (HON.out _ (400 + 20 * i) 4 _ (by omega) hC.out (by decide)).mono ?_
      rintro e w3 ⟨t, rfl, hD⟩
      have HF3 := Lib.hid (Own.keptC hF.out hD.2 (by omega))
      have HO3 := Lib.hid (Own.keptC hO.out hD.2 (by omega))
      have HP3 := Lib.hid (Own.keptC hP.out hD.2 (by omega))
      have HC3 := Lib.hid hD.1
      have HB3 := Lib.hid (hB.out.trans (hD.2.lowB (B := w.heap.size) (by omega) (by omega)))
      have hz3 := hD.2.size
      clear hD hF hO hP hC hB
      cases t
      · go_wp2_with fail
        refine (HNE.out _ (400 + 20 * i + 2) _ (by omega) HC3.out).mono ?_
        rintro e w4 ⟨x, y, rfl, hD⟩
        have HF4 := Lib.hid (Own.keptC HF3.out hD.2 (by omega))
        have HO4 := Lib.hid (Own.keptC HO3.out hD.2 (by omega))
        have HP4 := Lib.hid (Own.keptC HP3.out hD.2 (by omega))
        have HC4 := Lib.hid hD.1
        have HB4 := Lib.hid (HB3.out.trans (hD.2.lowB (B := w.heap.size) (by omega) (by omega)))
        have hz4 := hD.2.size
        clear hD
        have c1' := HF4.out.at_ (i := i) (j := 1) hlt (by decide)
        have c2' := HF4.out.at_ (i := i) (j := 2) hlt (by decide)
        simp only [SD.cell] at c1' c2'
        obtain ⟨hbl4, hfz⟩ := HF4.out.free (show 0 < q by omega)
        have hlo : w1.heap.size ≤ b4 := by
          obtain ⟨p', _, _, hA, hl, _⟩ := HF4.out (show 0 < q by omega)
          obtain rfl : b4 = p' := by simpa using hA
          exact hl
        have HF5 := Lib.hid (sd_put (x := x) (y := y) (i := i) HF4.out)
        have HO5 := Lib.hid ((HO4.out.farHi HX.out (p := ⟨b4, i * 5 + 1, none⟩) hlo (.int .i64 x)).farHi HX.out (p := ⟨b4, i * 5 + 2, none⟩) hlo (.int .i64 y))
        have HP5 := Lib.hid ((HP4.out.farHi HY.out (p := ⟨b4, i * 5 + 1, none⟩) hlo (.int .i64 x)).farHi HY.out (p := ⟨b4, i * 5 + 2, none⟩) hlo (.int .i64 y))
        have HW5 := Lib.hid (show Below (w.heap.size + 1) w4 ((w4.setCell ⟨b4, i * 5 + 1, none⟩ (.int .i64 x)).setCell ⟨b4, i * 5 + 2, none⟩ (.int .i64 y)) from by repeat' (first | (with_reducible exact Below.refl _ _) | (with_reducible assumption) | (with_reducible refine Below.alloc ?_ ?_ _) | (with_reducible refine Below.drew ?_) | (with_reducible refine Below.setCell ?_ ?_ _) | (with_reducible refine Below.stepB (by assumption) ?_ ?_) | go_size))
        have HC5 := Lib.hid (HC4.out.belowB HW5.out (by omega))
        have HB5 := Lib.hid (HB4.out.trans (HW5.out.mono (by omega)))
        generalize hwv : (w4.setCell ⟨b4, i * 5 + 1, none⟩ (.int .i64 x)).setCell ⟨b4, i * 5 + 2, none⟩ (.int .i64 y) = w5 at HF5 HO5 HP5 HC5 HB5 HW5
        have hz5 : w4.heap.size ≤ w5.heap.size := by rw [← hwv]; simp
        go_wp2_with fail
        refine (HAM.out _ (400 + 20 * i + 12) w5.heap.size 5 5 [290, 500, 700, 830, 1000] _ (by omega) ((HC5.out.more (by omega)).below (by repeat' (first | (with_reducible exact Below.refl _ _) | (with_reducible assumption) | (with_reducible refine Below.alloc ?_ ?_ _) | (with_reducible refine Below.drew ?_) | (with_reducible refine Below.setCell ?_ ?_ _) | (with_reducible refine Below.stepB (by assumption) ?_ ?_) | go_size))) (blk_newC _ (by simp)) (by omega) (by decide) (by decide) (by decide)).mono ?_
        rintro e w6 ⟨z, rfl, hD⟩
        have HF6 := Lib.hid (Own.keptC (HF5.out.allocd _) hD.2 (by omega))
        have HO6 := Lib.hid (Own.keptC (HO5.out.allocd _) hD.2 (by omega))
        have HP6 := Lib.hid (Own.keptC (HP5.out.allocd _) hD.2 (by omega))
        have HC6 := Lib.hid hD.1
        have HB6 := Lib.hid ((show Below w.heap.size w _ from Below.alloc HB5.out (by omega) _).trans (hD.2.lowB (B := w.heap.size) (by omega) (by simp; omega)))
        have hz6 := hD.2.size
        (try simp at hz6)
        clear hD hwv
        have c3' := HF6.out.at_ (i := i) (j := 3) hlt (by decide)
        simp only [SD.cell] at c3'
        obtain ⟨hbl6, hfz6⟩ := HF6.out.free (show 0 < q by omega)
        have HF7 := Lib.hid (sd_depth (z := z) (i := i) HF6.out)
        have HO7 := Lib.hid (HO6.out.farHi HX.out (p := ⟨b4, i * 5 + 3, none⟩) hlo (.int .i64 z))
        have HP7 := Lib.hid (HP6.out.farHi HY.out (p := ⟨b4, i * 5 + 3, none⟩) hlo (.int .i64 z))
        have HW7 := Lib.hid (show Below (w.heap.size + 1) w6 (w6.setCell ⟨b4, i * 5 + 3, none⟩ (.int .i64 z)) from by repeat' (first | (with_reducible exact Below.refl _ _) | (with_reducible assumption) | (with_reducible refine Below.alloc ?_ ?_ _) | (with_reducible refine Below.drew ?_) | (with_reducible refine Below.setCell ?_ ?_ _) | (with_reducible refine Below.stepB (by assumption) ?_ ?_) | go_size))
        have HC7 := Lib.hid (HC6.out.belowB HW7.out (by omega))
        have HB7 := Lib.hid (HB6.out.trans (HW7.out.mono (by omega)))
        go_wp2
        go_roundw
        case rel => exact ⟨i + 1, _, by omega, by go_num, HF7.out, HO7.out, HP7.out, HC7.out.more (by omega), HB7.out, by simp; omega⟩
        case measure => simp [intOf]; omega
      · go_wp2
        go_roundw
        case rel => exact ⟨i + 1, f, by omega, by go_num, HF3.out, HO3.out, HP3.out, HC3.out.more (by omega), HB3.out, by omega⟩
        case measure => simp [intOf]; omega
    · obtain rfl : i = q := by omega
      have HX2 := HX
      go_wp2_with fail
      refine (depths15_any w.heap.size A n c (400 + 20 * i) (some ⟨b1, 0, none⟩) p c1 wr hC.out (by omega) (by omega) (by omega)).mono ?_
      rintro e w3 ⟨d, b3, c3, L, rfl, hd, hdc, hQ, hD⟩
      have HF3 := Lib.hid (Own.keptC hF.out hD.2 (by omega))
      have HO3 := Lib.hid (Own.keptC hO.out hD.2 (by omega))
      have HP3 := Lib.hid (Own.keptC hP.out hD.2 (by omega))
      have HQ3 := Lib.hid hQ
      have HB3 := Lib.hid (hB.out.trans (hD.2.lowB (B := w.heap.size) (by omega) (by omega)))
      clear hD hF hO hP hC hB hQ HX2
      go_wp2
      refine bodyPost_ret (results_tmp4 rfl _ _ _) rfl ?_
      exact ⟨p, b1, c1, S, m, b2, c2, T, d, b3, c3, L, i, b4, c4, f, rfl, hp, hpc, hm, hmc, HO3.out.sl, HP3.out.sl, hd, HQ3.out.sl, hq, HF3.out.sl, HB3.out⟩
end
end Go.Proofs.Ytfflbkmncnaffaa
