/- Contracts: the drawn arguments of the law on dangers. -/
import Derived.Test.YtclcgckledbpfaaDoorDrawB
namespace Go.Proofs.YtclcgckledbpfaaDoor
open Go.RowKit
set_option maxRecDepth 100000 in
set_option maxHeartbeats 2000000 in
theorem DrawIsDanger_any (n c : Nat) (A : Option Addr) (B : Nat → Int) (w : World) (hR : ∀ i, 0 ≤ B i ∧ B i ≤ 255) (hS : Sl w 1 A n (fun i _ => .int .u8 (B i))) (hn : n ≤ 65536) :
    Calls Tryd.prog 30 #[.slice A n c] w fun e w' => ∃ s : DG, e = .returned (.agg #[.int .i64 s.id, .int .i64 s.kind, .int .i64 s.x, .int .i64 s.y, .int .i64 s.least, .int .i64 s.quality, .int .i64 s.seen]) ∧ Below w.heap.size w w' := by
  have HR := Lib.hid hR
  have HS := Lib.hid hS
  clear hR hS
  go_enter Tryd.func30, Tryd.ntmps30
  go_wp2_with fail
  refine (among_any (w.heap.size + 1) A n c 0 (w.heap.size + 2) 3 3 [1, 42, 999] _ ((curS_new (blk_newC (w.alloc (.cells #[.int .i64 0, .int .i64 0, .int .i64 0, .int .i64 0, .int .i64 0, .int .i64 0, .int .i64 0] 30)) (by simp)) HR.out HS.out (by repeat' (first | (with_reducible exact Below.refl _ _) | (with_reducible assumption) | (with_reducible refine Below.alloc ?_ ?_ _) | (with_reducible refine Below.drew ?_) | (with_reducible refine Below.setCell ?_ ?_ _) | (with_reducible refine Below.stepB (by assumption) ?_ ?_) | go_size)) (by omega)).below (by repeat' (first | (with_reducible exact Below.refl _ _) | (with_reducible assumption) | (with_reducible refine Below.alloc ?_ ?_ _) | (with_reducible refine Below.drew ?_) | (with_reducible refine Below.setCell ?_ ?_ _) | (with_reducible refine Below.stepB (by assumption) ?_ ?_) | go_size))) (by decide) (by omega) ?_ (by omega) (by decide) (by decide) (by decide)).mono ?_
  · exact blk_newC _ (by simp)
  rintro e w1 ⟨x, rfl, hD⟩
  have HT1 := Lib.hid (Blk.keptC (((blk_newC (g := w.heap.size) (t := 30) (cs := #[.int .i64 0, .int .i64 0, .int .i64 0, .int .i64 0, .int .i64 0, .int .i64 0, .int .i64 0]) w rfl).alloc _).alloc _) hD.2 (by omega))
  have HB1 := Lib.hid ((show Below w.heap.size w _ from by repeat' (first | (with_reducible exact Below.refl _ _) | (with_reducible assumption) | (with_reducible refine Below.alloc ?_ ?_ _) | (with_reducible refine Below.drew ?_) | (with_reducible refine Below.setCell ?_ ?_ _) | (with_reducible refine Below.stepB (by assumption) ?_ ?_) | go_size)).trans (hD.2.lowB (B := w.heap.size) (by omega) (by simp; omega)))
  have HC1 := Lib.hid hD.1
  have hz1 := hD.2.size
  (try simp at hz1)
  clear hD
  go_wp2_with fail
  refine (danger_any (w.heap.size + 1) A n c 2 x w1 HC1.out (by decide) (by omega)).mono ?_
  rintro e w2 ⟨s, rfl, hD⟩
  have HT2 := Lib.hid (Blk.keptC HT1.out hD.2 (by omega))
  have HB2 := Lib.hid (HB1.out.trans (hD.2.lowB (B := w.heap.size) (by omega) (by omega)))
  clear hD
  have e0 : ∀ v0 : Value, (w2.setCell ⟨w.heap.size, 0, none⟩ v0).cell? ⟨w.heap.size, 0, none⟩ = some v0 := fun v0 => (HT2.out.set_ 0 v0).cell 0
  have e1 : ∀ v0 v1 : Value, ((w2.setCell ⟨w.heap.size, 0, none⟩ v0).setCell ⟨w.heap.size, 1, none⟩ v1).cell? ⟨w.heap.size, 1, none⟩ = some v1 := fun v0 v1 => ((HT2.out.set_ 0 v0).set_ 1 v1).cell 1
  have e2 : ∀ v0 v1 v2 : Value, (((w2.setCell ⟨w.heap.size, 0, none⟩ v0).setCell ⟨w.heap.size, 1, none⟩ v1).setCell ⟨w.heap.size, 2, none⟩ v2).cell? ⟨w.heap.size, 2, none⟩ = some v2 := fun v0 v1 v2 => (((HT2.out.set_ 0 v0).set_ 1 v1).set_ 2 v2).cell 2
  have e3 : ∀ v0 v1 v2 v3 : Value, ((((w2.setCell ⟨w.heap.size, 0, none⟩ v0).setCell ⟨w.heap.size, 1, none⟩ v1).setCell ⟨w.heap.size, 2, none⟩ v2).setCell ⟨w.heap.size, 3, none⟩ v3).cell? ⟨w.heap.size, 3, none⟩ = some v3 := fun v0 v1 v2 v3 => ((((HT2.out.set_ 0 v0).set_ 1 v1).set_ 2 v2).set_ 3 v3).cell 3
  have e4 : ∀ v0 v1 v2 v3 v4 : Value, (((((w2.setCell ⟨w.heap.size, 0, none⟩ v0).setCell ⟨w.heap.size, 1, none⟩ v1).setCell ⟨w.heap.size, 2, none⟩ v2).setCell ⟨w.heap.size, 3, none⟩ v3).setCell ⟨w.heap.size, 4, none⟩ v4).cell? ⟨w.heap.size, 4, none⟩ = some v4 := fun v0 v1 v2 v3 v4 => (((((HT2.out.set_ 0 v0).set_ 1 v1).set_ 2 v2).set_ 3 v3).set_ 4 v4).cell 4
  have e5 : ∀ v0 v1 v2 v3 v4 v5 : Value, ((((((w2.setCell ⟨w.heap.size, 0, none⟩ v0).setCell ⟨w.heap.size, 1, none⟩ v1).setCell ⟨w.heap.size, 2, none⟩ v2).setCell ⟨w.heap.size, 3, none⟩ v3).setCell ⟨w.heap.size, 4, none⟩ v4).setCell ⟨w.heap.size, 5, none⟩ v5).cell? ⟨w.heap.size, 5, none⟩ = some v5 := fun v0 v1 v2 v3 v4 v5 => ((((((HT2.out.set_ 0 v0).set_ 1 v1).set_ 2 v2).set_ 3 v3).set_ 4 v4).set_ 5 v5).cell 5
  have e6 : ∀ v0 v1 v2 v3 v4 v5 v6 : Value, (((((((w2.setCell ⟨w.heap.size, 0, none⟩ v0).setCell ⟨w.heap.size, 1, none⟩ v1).setCell ⟨w.heap.size, 2, none⟩ v2).setCell ⟨w.heap.size, 3, none⟩ v3).setCell ⟨w.heap.size, 4, none⟩ v4).setCell ⟨w.heap.size, 5, none⟩ v5).setCell ⟨w.heap.size, 6, none⟩ v6).cell? ⟨w.heap.size, 6, none⟩ = some v6 := fun v0 v1 v2 v3 v4 v5 v6 => (((((((HT2.out.set_ 0 v0).set_ 1 v1).set_ 2 v2).set_ 3 v3).set_ 4 v4).set_ 5 v5).set_ 6 v6).cell 6
  have et0 : w2.cell? ⟨w.heap.size, 0, none⟩ = some (.int .i64 0) := HT2.out.cell 0
  have et1 : w2.cell? ⟨w.heap.size, 1, none⟩ = some (.int .i64 0) := HT2.out.cell 1
  have et2 : w2.cell? ⟨w.heap.size, 2, none⟩ = some (.int .i64 0) := HT2.out.cell 2
  have et3 : w2.cell? ⟨w.heap.size, 3, none⟩ = some (.int .i64 0) := HT2.out.cell 3
  have et4 : w2.cell? ⟨w.heap.size, 4, none⟩ = some (.int .i64 0) := HT2.out.cell 4
  have et5 : w2.cell? ⟨w.heap.size, 5, none⟩ = some (.int .i64 0) := HT2.out.cell 5
  have et6 : w2.cell? ⟨w.heap.size, 6, none⟩ = some (.int .i64 0) := HT2.out.cell 6
  have etf := HT2.out.frozen
  have etl := HT2.out.lt
  go_wp2
  (try simp only [Exit.inBlock, Exit.then])
  refine bodyPost_ret (by simp [results, Tryd.results30, go_sem, e0, e1, e2, e3, e4, e5, e6]; try rfl) rfl ?_
  have hb := HB2.out
  refine ⟨s, rfl, ?_⟩
  repeat' (first | (with_reducible exact Below.refl _ _) | (with_reducible assumption) | (with_reducible refine Below.alloc ?_ ?_ _) | (with_reducible refine Below.drew ?_) | (with_reducible refine Below.setCell ?_ ?_ _) | (with_reducible refine Below.stepB (by assumption) ?_ ?_) | go_size)
set_option maxRecDepth 100000 in
set_option maxHeartbeats 2000000 in
theorem DrawSafeOver_any (n c : Nat) (A : Option Addr) (B : Nat → Int) (w : World) (hR : ∀ i, 0 ≤ B i ∧ B i ≤ 255) (hS : Sl w 1 A n (fun i _ => .int .u8 (B i))) (hn : n ≤ 65536) :
    Calls Tryd.prog 9 #[.slice A n c] w fun e w' => ∃ s : DG, e = .returned (.agg #[.int .i64 s.id, .int .i64 s.kind, .int .i64 s.x, .int .i64 s.y, .int .i64 s.least, .int .i64 s.quality, .int .i64 s.seen]) ∧ Below w.heap.size w w' := by
  have HD := Lib.hid (fun W (hb : Below w.heap.size w W) => DrawIsDanger_any n c A B W hR (hS.below hb) hn)
  clear hR hS
  go_enter Tryd.func9, Tryd.ntmps9
  go_wp2_with fail
  refine (HD.out _ (by repeat' (first | (with_reducible exact Below.refl _ _) | (with_reducible assumption) | (with_reducible refine Below.alloc ?_ ?_ _) | (with_reducible refine Below.drew ?_) | (with_reducible refine Below.setCell ?_ ?_ _) | (with_reducible refine Below.stepB (by assumption) ?_ ?_) | go_size))).mono ?_
  rintro e w1 ⟨s, rfl, hb1⟩
  have HT1 := Lib.hid (Blk.below (blk_newC (g := w.heap.size) (t := 30) (cs := #[.int .i64 0, .int .i64 0, .int .i64 0, .int .i64 0, .int .i64 0, .int .i64 0, .int .i64 0]) w rfl) hb1 (by simp))
  have HB1 := Lib.hid (show Below w.heap.size w w1 from by repeat' (first | (with_reducible exact Below.refl _ _) | (with_reducible assumption) | (with_reducible refine Below.alloc ?_ ?_ _) | (with_reducible refine Below.drew ?_) | (with_reducible refine Below.setCell ?_ ?_ _) | (with_reducible refine Below.stepB (by assumption) ?_ ?_) | go_size))
  clear hb1
  have e0 : ∀ v0 : Value, (w1.setCell ⟨w.heap.size, 0, none⟩ v0).cell? ⟨w.heap.size, 0, none⟩ = some v0 := fun v0 => (HT1.out.set_ 0 v0).cell 0
  have e1 : ∀ v0 v1 : Value, ((w1.setCell ⟨w.heap.size, 0, none⟩ v0).setCell ⟨w.heap.size, 1, none⟩ v1).cell? ⟨w.heap.size, 1, none⟩ = some v1 := fun v0 v1 => ((HT1.out.set_ 0 v0).set_ 1 v1).cell 1
  have e2 : ∀ v0 v1 v2 : Value, (((w1.setCell ⟨w.heap.size, 0, none⟩ v0).setCell ⟨w.heap.size, 1, none⟩ v1).setCell ⟨w.heap.size, 2, none⟩ v2).cell? ⟨w.heap.size, 2, none⟩ = some v2 := fun v0 v1 v2 => (((HT1.out.set_ 0 v0).set_ 1 v1).set_ 2 v2).cell 2
  have e3 : ∀ v0 v1 v2 v3 : Value, ((((w1.setCell ⟨w.heap.size, 0, none⟩ v0).setCell ⟨w.heap.size, 1, none⟩ v1).setCell ⟨w.heap.size, 2, none⟩ v2).setCell ⟨w.heap.size, 3, none⟩ v3).cell? ⟨w.heap.size, 3, none⟩ = some v3 := fun v0 v1 v2 v3 => ((((HT1.out.set_ 0 v0).set_ 1 v1).set_ 2 v2).set_ 3 v3).cell 3
  have e4 : ∀ v0 v1 v2 v3 v4 : Value, (((((w1.setCell ⟨w.heap.size, 0, none⟩ v0).setCell ⟨w.heap.size, 1, none⟩ v1).setCell ⟨w.heap.size, 2, none⟩ v2).setCell ⟨w.heap.size, 3, none⟩ v3).setCell ⟨w.heap.size, 4, none⟩ v4).cell? ⟨w.heap.size, 4, none⟩ = some v4 := fun v0 v1 v2 v3 v4 => (((((HT1.out.set_ 0 v0).set_ 1 v1).set_ 2 v2).set_ 3 v3).set_ 4 v4).cell 4
  have e5 : ∀ v0 v1 v2 v3 v4 v5 : Value, ((((((w1.setCell ⟨w.heap.size, 0, none⟩ v0).setCell ⟨w.heap.size, 1, none⟩ v1).setCell ⟨w.heap.size, 2, none⟩ v2).setCell ⟨w.heap.size, 3, none⟩ v3).setCell ⟨w.heap.size, 4, none⟩ v4).setCell ⟨w.heap.size, 5, none⟩ v5).cell? ⟨w.heap.size, 5, none⟩ = some v5 := fun v0 v1 v2 v3 v4 v5 => ((((((HT1.out.set_ 0 v0).set_ 1 v1).set_ 2 v2).set_ 3 v3).set_ 4 v4).set_ 5 v5).cell 5
  have e6 : ∀ v0 v1 v2 v3 v4 v5 v6 : Value, (((((((w1.setCell ⟨w.heap.size, 0, none⟩ v0).setCell ⟨w.heap.size, 1, none⟩ v1).setCell ⟨w.heap.size, 2, none⟩ v2).setCell ⟨w.heap.size, 3, none⟩ v3).setCell ⟨w.heap.size, 4, none⟩ v4).setCell ⟨w.heap.size, 5, none⟩ v5).setCell ⟨w.heap.size, 6, none⟩ v6).cell? ⟨w.heap.size, 6, none⟩ = some v6 := fun v0 v1 v2 v3 v4 v5 v6 => (((((((HT1.out.set_ 0 v0).set_ 1 v1).set_ 2 v2).set_ 3 v3).set_ 4 v4).set_ 5 v5).set_ 6 v6).cell 6
  have et0 : w1.cell? ⟨w.heap.size, 0, none⟩ = some (.int .i64 0) := HT1.out.cell 0
  have et1 : w1.cell? ⟨w.heap.size, 1, none⟩ = some (.int .i64 0) := HT1.out.cell 1
  have et2 : w1.cell? ⟨w.heap.size, 2, none⟩ = some (.int .i64 0) := HT1.out.cell 2
  have et3 : w1.cell? ⟨w.heap.size, 3, none⟩ = some (.int .i64 0) := HT1.out.cell 3
  have et4 : w1.cell? ⟨w.heap.size, 4, none⟩ = some (.int .i64 0) := HT1.out.cell 4
  have et5 : w1.cell? ⟨w.heap.size, 5, none⟩ = some (.int .i64 0) := HT1.out.cell 5
  have et6 : w1.cell? ⟨w.heap.size, 6, none⟩ = some (.int .i64 0) := HT1.out.cell 6
  have etf := HT1.out.frozen
  have etl := HT1.out.lt
  go_wp2
  (try simp only [Exit.inBlock, Exit.then])
  refine bodyPost_ret (by simp [results, Tryd.results9, go_sem, e0, e1, e2, e3, e4, e5, e6]; try rfl) rfl ?_
  have hb := HB1.out
  refine ⟨s, rfl, ?_⟩
  repeat' (first | (with_reducible exact Below.refl _ _) | (with_reducible assumption) | (with_reducible refine Below.alloc ?_ ?_ _) | (with_reducible refine Below.drew ?_) | (with_reducible refine Below.setCell ?_ ?_ _) | (with_reducible refine Below.stepB (by assumption) ?_ ?_) | go_size)
set_option maxRecDepth 100000 in
set_option maxHeartbeats 2000000 in
theorem DrawDangerText_any (n c : Nat) (A : Option Addr) (B : Nat → Int) (w : World) (hR : ∀ i, 0 ≤ B i ∧ B i ≤ 255) (hS : Sl w 1 A n (fun i _ => .int .u8 (B i))) (hn : n ≤ 65536) :
    Calls Tryd.prog 25 #[.slice A n c] w fun e w' => ∃ s : DG, e = .returned (.agg #[.int .i64 s.id, .int .i64 s.kind, .int .i64 s.x, .int .i64 s.y, .int .i64 s.least, .int .i64 s.quality, .int .i64 s.seen]) ∧ Below w.heap.size w w' := by
  have HD := Lib.hid (fun W (hb : Below w.heap.size w W) => DrawIsDanger_any n c A B W hR (hS.below hb) hn)
  clear hR hS
  go_enter Tryd.func25, Tryd.ntmps25
  go_wp2_with fail
  refine (HD.out _ (by repeat' (first | (with_reducible exact Below.refl _ _) | (with_reducible assumption) | (with_reducible refine Below.alloc ?_ ?_ _) | (with_reducible refine Below.drew ?_) | (with_reducible refine Below.setCell ?_ ?_ _) | (with_reducible refine Below.stepB (by assumption) ?_ ?_) | go_size))).mono ?_
  rintro e w1 ⟨s, rfl, hb1⟩
  have HT1 := Lib.hid (Blk.below (blk_newC (g := w.heap.size) (t := 30) (cs := #[.int .i64 0, .int .i64 0, .int .i64 0, .int .i64 0, .int .i64 0, .int .i64 0, .int .i64 0]) w rfl) hb1 (by simp))
  have HB1 := Lib.hid (show Below w.heap.size w w1 from by repeat' (first | (with_reducible exact Below.refl _ _) | (with_reducible assumption) | (with_reducible refine Below.alloc ?_ ?_ _) | (with_reducible refine Below.drew ?_) | (with_reducible refine Below.setCell ?_ ?_ _) | (with_reducible refine Below.stepB (by assumption) ?_ ?_) | go_size))
  clear hb1
  have e0 : ∀ v0 : Value, (w1.setCell ⟨w.heap.size, 0, none⟩ v0).cell? ⟨w.heap.size, 0, none⟩ = some v0 := fun v0 => (HT1.out.set_ 0 v0).cell 0
  have e1 : ∀ v0 v1 : Value, ((w1.setCell ⟨w.heap.size, 0, none⟩ v0).setCell ⟨w.heap.size, 1, none⟩ v1).cell? ⟨w.heap.size, 1, none⟩ = some v1 := fun v0 v1 => ((HT1.out.set_ 0 v0).set_ 1 v1).cell 1
  have e2 : ∀ v0 v1 v2 : Value, (((w1.setCell ⟨w.heap.size, 0, none⟩ v0).setCell ⟨w.heap.size, 1, none⟩ v1).setCell ⟨w.heap.size, 2, none⟩ v2).cell? ⟨w.heap.size, 2, none⟩ = some v2 := fun v0 v1 v2 => (((HT1.out.set_ 0 v0).set_ 1 v1).set_ 2 v2).cell 2
  have e3 : ∀ v0 v1 v2 v3 : Value, ((((w1.setCell ⟨w.heap.size, 0, none⟩ v0).setCell ⟨w.heap.size, 1, none⟩ v1).setCell ⟨w.heap.size, 2, none⟩ v2).setCell ⟨w.heap.size, 3, none⟩ v3).cell? ⟨w.heap.size, 3, none⟩ = some v3 := fun v0 v1 v2 v3 => ((((HT1.out.set_ 0 v0).set_ 1 v1).set_ 2 v2).set_ 3 v3).cell 3
  have e4 : ∀ v0 v1 v2 v3 v4 : Value, (((((w1.setCell ⟨w.heap.size, 0, none⟩ v0).setCell ⟨w.heap.size, 1, none⟩ v1).setCell ⟨w.heap.size, 2, none⟩ v2).setCell ⟨w.heap.size, 3, none⟩ v3).setCell ⟨w.heap.size, 4, none⟩ v4).cell? ⟨w.heap.size, 4, none⟩ = some v4 := fun v0 v1 v2 v3 v4 => (((((HT1.out.set_ 0 v0).set_ 1 v1).set_ 2 v2).set_ 3 v3).set_ 4 v4).cell 4
  have e5 : ∀ v0 v1 v2 v3 v4 v5 : Value, ((((((w1.setCell ⟨w.heap.size, 0, none⟩ v0).setCell ⟨w.heap.size, 1, none⟩ v1).setCell ⟨w.heap.size, 2, none⟩ v2).setCell ⟨w.heap.size, 3, none⟩ v3).setCell ⟨w.heap.size, 4, none⟩ v4).setCell ⟨w.heap.size, 5, none⟩ v5).cell? ⟨w.heap.size, 5, none⟩ = some v5 := fun v0 v1 v2 v3 v4 v5 => ((((((HT1.out.set_ 0 v0).set_ 1 v1).set_ 2 v2).set_ 3 v3).set_ 4 v4).set_ 5 v5).cell 5
  have e6 : ∀ v0 v1 v2 v3 v4 v5 v6 : Value, (((((((w1.setCell ⟨w.heap.size, 0, none⟩ v0).setCell ⟨w.heap.size, 1, none⟩ v1).setCell ⟨w.heap.size, 2, none⟩ v2).setCell ⟨w.heap.size, 3, none⟩ v3).setCell ⟨w.heap.size, 4, none⟩ v4).setCell ⟨w.heap.size, 5, none⟩ v5).setCell ⟨w.heap.size, 6, none⟩ v6).cell? ⟨w.heap.size, 6, none⟩ = some v6 := fun v0 v1 v2 v3 v4 v5 v6 => (((((((HT1.out.set_ 0 v0).set_ 1 v1).set_ 2 v2).set_ 3 v3).set_ 4 v4).set_ 5 v5).set_ 6 v6).cell 6
  have et0 : w1.cell? ⟨w.heap.size, 0, none⟩ = some (.int .i64 0) := HT1.out.cell 0
  have et1 : w1.cell? ⟨w.heap.size, 1, none⟩ = some (.int .i64 0) := HT1.out.cell 1
  have et2 : w1.cell? ⟨w.heap.size, 2, none⟩ = some (.int .i64 0) := HT1.out.cell 2
  have et3 : w1.cell? ⟨w.heap.size, 3, none⟩ = some (.int .i64 0) := HT1.out.cell 3
  have et4 : w1.cell? ⟨w.heap.size, 4, none⟩ = some (.int .i64 0) := HT1.out.cell 4
  have et5 : w1.cell? ⟨w.heap.size, 5, none⟩ = some (.int .i64 0) := HT1.out.cell 5
  have et6 : w1.cell? ⟨w.heap.size, 6, none⟩ = some (.int .i64 0) := HT1.out.cell 6
  have etf := HT1.out.frozen
  have etl := HT1.out.lt
  go_wp2
  (try simp only [Exit.inBlock, Exit.then])
  refine bodyPost_ret (by simp [results, Tryd.results25, go_sem, e0, e1, e2, e3, e4, e5, e6]; try rfl) rfl ?_
  have hb := HB1.out
  refine ⟨s, rfl, ?_⟩
  repeat' (first | (with_reducible exact Below.refl _ _) | (with_reducible assumption) | (with_reducible refine Below.alloc ?_ ?_ _) | (with_reducible refine Below.drew ?_) | (with_reducible refine Below.setCell ?_ ?_ _) | (with_reducible refine Below.stepB (by assumption) ?_ ?_) | go_size)
theorem dangerId_any (b : Nat) (A : Option Addr) (n c K m b' c' lo : Nat) (f : Nat → DG) (w : World) (h : CurS w b A n c K) (hK : K ≤ 999900) (hn : n ≤ 9223372036854775807) (hO : Own w lo 7 (some ⟨b', 0, none⟩) m (fun i j => (f i).cell j)) (hlo : b < lo) (hm : m ≤ 13) :
    Calls Tryd.prog 44 #[.pointer (some ⟨b, 0, none⟩), .slice (some ⟨b', 0, none⟩) m c'] w fun e w' => ∃ x : Int, e = .returned (.int .i64 x) ∧ Drew w b A n c (K + 6) w' := by
  have HPK := Lib.hid (fun K' (m : Int) W (hK : K' ≤ 999990) (hC : CurS W b A n c K') (hm : m ≤ 100000) => pick_any b A n c K' m W hC hK hn hm)
  have HON := Lib.hid (fun K' (m : Int) W (hK : K' ≤ 999990) (hC : CurS W b A n c K') (hm : m ≤ 100000) => one_any b A n c K' m W hC hK hn hm)
  have HAM := Lib.hid (fun K' g m c2 ls W (hK : K' ≤ 999990) (hC : CurS W b A n c K') hB hg hm0 hm hl => among_any b A n c K' g m c2 ls W hC hK hn hB hg hm0 hm hl)
  have HC := Lib.hid h
  have HO := Lib.hid hO
  have hbl := h.lt
  clear h hO
  have HK0 := Lib.hid (Kept.refl w (some ⟨b, 0, none⟩) 1)
  rcases Nat.eq_zero_or_pos m with rfl | hpos
  · go_enter Tryd.func44, Tryd.ntmps44
    go_wp2_with fail
    refine (HAM.out K w.heap.size 3 3 [0, 1, 500] _ (by omega) (HC.out.below (by repeat' (first | (with_reducible exact Below.refl _ _) | (with_reducible assumption) | (with_reducible refine Below.alloc ?_ ?_ _) | (with_reducible refine Below.drew ?_) | (with_reducible refine Below.setCell ?_ ?_ _) | (with_reducible refine Below.stepB (by assumption) ?_ ?_) | go_size))) ?_ (by omega) (by decide) (by decide) (by decide)).mono ?_
    · exact blk_newC _ (by simp)
    rintro e w1 ⟨x, rfl, hD⟩
    have HK1 := Lib.hid ((HK0.out.laterB (show Below w.heap.size w _ from by repeat' (first | (with_reducible exact Below.refl _ _) | (with_reducible assumption) | (with_reducible refine Below.alloc ?_ ?_ _) | (with_reducible refine Below.drew ?_) | (with_reducible refine Below.setCell ?_ ?_ _) | (with_reducible refine Below.stepB (by assumption) ?_ ?_) | go_size))).trans1 hD.2)
    have HC1 := Lib.hid hD.1
    clear hD
    go_wp2
    go_ret
    exact ⟨x, rfl, HC1.out.more (by omega), HK1.out⟩
  · have hm0 : ¬ (m : Int) = 0 := by omega
    have hm1 : decide ((m : Int) = 0) = false := decide_eq_false hm0
    go_enter Tryd.func44, Tryd.ntmps44
    go_wp2_with fail
    refine (HON.out K 10 _ (by omega) (HC.out.below (by repeat' (first | (with_reducible exact Below.refl _ _) | (with_reducible assumption) | (with_reducible refine Below.alloc ?_ ?_ _) | (with_reducible refine Below.drew ?_) | (with_reducible refine Below.setCell ?_ ?_ _) | (with_reducible refine Below.stepB (by assumption) ?_ ?_) | go_size))) (by decide)).mono ?_
    rintro e w1 ⟨q, rfl, hD⟩
    have HO1 := Lib.hid (Own.keptC HO.out hD.2 hlo)
    have HK1 := Lib.hid ((HK0.out.laterB (show Below w.heap.size w _ from by repeat' (first | (with_reducible exact Below.refl _ _) | (with_reducible assumption) | (with_reducible refine Below.alloc ?_ ?_ _) | (with_reducible refine Below.drew ?_) | (with_reducible refine Below.setCell ?_ ?_ _) | (with_reducible refine Below.stepB (by assumption) ?_ ?_) | go_size))).trans1 hD.2)
    have HC1 := Lib.hid hD.1
    have hz1 := hD.2.size
    (try simp at hz1)
    clear hD
    cases q
    · go_wp2_with fail
      refine (HPK.out (K + 2) m _ (by omega) (HC1.out.below (by repeat' (first | (with_reducible exact Below.refl _ _) | (with_reducible assumption) | (with_reducible refine Below.alloc ?_ ?_ _) | (with_reducible refine Below.drew ?_) | (with_reducible refine Below.setCell ?_ ?_ _) | (with_reducible refine Below.stepB (by assumption) ?_ ?_) | go_size))) (by omega)).mono ?_
      rintro e w2 ⟨x, rfl, x0, x1, hD⟩
      have HO2 := Lib.hid (Own.keptC HO1.out hD.2 hlo)
      have HK2 := Lib.hid (HK1.out.trans1 hD.2)
      have HC2 := Lib.hid hD.1
      clear hD
      obtain ⟨k, rfl⟩ : ∃ k : Nat, x = k := ⟨x.toNat, by omega⟩
      have hk : k < m := by omega
      obtain ⟨bb, off, hA, -, -, c0, -, -, -, -, -, -, -⟩ := SlDG.at (w := w2) (wr := w2) HO2.out.sl (Below.refl _ _) hk
      cases hA
      simp only [Nat.zero_add] at c0
      clear x0 x1
      go_wp2
      go_ret
      exact ⟨_, rfl, HC2.out.more (by omega), HK2.out⟩
    · go_wp2_with fail
      refine (HAM.out (K + 2) w1.heap.size 3 3 [0, 1, 500] _ (by omega) (HC1.out.below (by repeat' (first | (with_reducible exact Below.refl _ _) | (with_reducible assumption) | (with_reducible refine Below.alloc ?_ ?_ _) | (with_reducible refine Below.drew ?_) | (with_reducible refine Below.setCell ?_ ?_ _) | (with_reducible refine Below.stepB (by assumption) ?_ ?_) | go_size))) ?_ (by omega) (by decide) (by decide) (by decide)).mono ?_
      · exact blk_newC _ (by simp)
      rintro e w2 ⟨x, rfl, hD⟩
      have HK2 := Lib.hid ((HK1.out.laterB (show Below w1.heap.size w1 _ from by repeat' (first | (with_reducible exact Below.refl _ _) | (with_reducible assumption) | (with_reducible refine Below.alloc ?_ ?_ _) | (with_reducible refine Below.drew ?_) | (with_reducible refine Below.setCell ?_ ?_ _) | (with_reducible refine Below.stepB (by assumption) ?_ ?_) | go_size))).trans1 hD.2)
      have HC2 := Lib.hid hD.1
      clear hD
      go_wp2
      go_ret
      exact ⟨x, rfl, HC2.out.more (by omega), HK2.out⟩
theorem DrawBlockedFor_any (n c : Nat) (A : Option Addr) (B : Nat → Int) (w : World) (hR : ∀ i, 0 ≤ B i ∧ B i ≤ 255) (hS : Sl w 1 A n (fun i _ => .int .u8 (B i))) (hn : n ≤ 65536) :
    Calls Tryd.prog 13 #[.slice A n c] w fun e w' => ∃ (m b' c' : Nat) (f : Nat → DG) (x y : Int), e = .returned (.tuple #[.slice (some ⟨b', 0, none⟩) m c', .int .i64 x, .int .i64 y]) ∧ m ≤ 13 ∧ Own w' w.heap.size 7 (some ⟨b', 0, none⟩) m (fun i j => (f i).cell j) ∧ Below w.heap.size w w' := by
  have HR := Lib.hid hR
  have HS := Lib.hid hS
  clear hR hS
  go_enter Tryd.func13, Tryd.ntmps13
  go_wp2_with fail
  refine (dangers_any w.heap.size A n c 0 _ (curS_new (blk_newC w rfl) HR.out HS.out (by repeat' (first | (with_reducible exact Below.refl _ _) | (with_reducible assumption) | (with_reducible refine Below.alloc ?_ ?_ _) | (with_reducible refine Below.drew ?_) | (with_reducible refine Below.setCell ?_ ?_ _) | (with_reducible refine Below.stepB (by assumption) ?_ ?_) | go_size)) (Nat.le_refl _)) (by decide) (by omega)).mono ?_
  rintro e w1 ⟨m, b1, c1, f, rfl, hm, hcap, hO, hD⟩
  have HB1 := Lib.hid ((show Below w.heap.size w _ from by repeat' (first | (with_reducible exact Below.refl _ _) | (with_reducible assumption) | (with_reducible refine Below.alloc ?_ ?_ _) | (with_reducible refine Below.drew ?_) | (with_reducible refine Below.setCell ?_ ?_ _) | (with_reducible refine Below.stepB (by assumption) ?_ ?_) | go_size)).trans (hD.2.lowB (Nat.le_refl _) (by simp)))
  have HO1 := Lib.hid (hO.more (lo' := w.heap.size + 1) (by simp))
  have HC1 := Lib.hid hD.1
  have hz1 := hD.2.size
  (try simp at hz1)
  clear hO hD
  go_wp2_with fail
  refine (pick_any w.heap.size A n c 300 24 _ (HC1.out.below (by repeat' (first | (with_reducible exact Below.refl _ _) | (with_reducible assumption) | (with_reducible refine Below.alloc ?_ ?_ _) | (with_reducible refine Below.drew ?_) | (with_reducible refine Below.setCell ?_ ?_ _) | (with_reducible refine Below.stepB (by assumption) ?_ ?_) | go_size))) (by decide) (by omega) (by decide)).mono ?_
  rintro e w2 ⟨x, rfl, x0, x1, hD⟩
  have hx : x < 24 := by omega
  have HL2 := Lib.hid (Blk.keptC (blk_newC (g := w1.heap.size) (t := 3) (cs := (([10, 150, 600, 2000, 9, 2001] : List Int).map (Value.int .i64)).toArray) w1 rfl) hD.2 (by omega))
  have HO2 := Lib.hid (Own.keptC (HO1.out.allocd _) hD.2 (by omega))
  have HB2 := Lib.hid ((show Below w.heap.size w _ from Below.alloc HB1.out (by omega) _).trans (hD.2.lowB (Nat.le_refl _) (by simp; omega)))
  have HC2 := Lib.hid hD.1
  have hz2 := hD.2.size
  (try simp at hz2)
  clear hD
  go_wp2_with fail
  refine (among_any w.heap.size A n c (300 + 2) w1.heap.size (4 + x / 11).toNat 6 [10, 150, 600, 2000, 9, 2001] w2 HC2.out (by decide) (by omega) HL2.out (by omega) (by omega) (by simp; omega) (by decide)).mono ?_
  rintro e w3 ⟨t, rfl, hD⟩
  have HO3 := Lib.hid (Own.keptC HO2.out hD.2 (by omega))
  have HB3 := Lib.hid (HB2.out.trans (hD.2.lowB (Nat.le_refl _) (by omega)))
  have HC3 := Lib.hid hD.1
  have hz3 := hD.2.size
  clear hD
  clear HL2 HO2 HB2 HC2 hx x0 x1
  go_wp2_with fail
  refine (pick_any w.heap.size A n c 304 24 _ (HC3.out.below (by repeat' (first | (with_reducible exact Below.refl _ _) | (with_reducible assumption) | (with_reducible refine Below.alloc ?_ ?_ _) | (with_reducible refine Below.drew ?_) | (with_reducible refine Below.setCell ?_ ?_ _) | (with_reducible refine Below.stepB (by assumption) ?_ ?_) | go_size))) (by decide) (by omega) (by decide)).mono ?_
  rintro e w4 ⟨x, rfl, x0, x1, hD⟩
  have hx : x < 24 := by omega
  have HL4 := Lib.hid (Blk.keptC (blk_newC (g := w3.heap.size) (t := 3) (cs := (([0, 100, 500, -1, 501] : List Int).map (Value.int .i64)).toArray) w3 rfl) hD.2 (by omega))
  have HO4 := Lib.hid (Own.keptC (HO3.out.allocd _) hD.2 (by omega))
  have HB4 := Lib.hid ((show Below w.heap.size w _ from Below.alloc HB3.out (by omega) _).trans (hD.2.lowB (Nat.le_refl _) (by simp; omega)))
  have HC4 := Lib.hid hD.1
  have hz4 := hD.2.size
  (try simp at hz4)
  clear hD
  go_wp2_with fail
  refine (among_any w.heap.size A n c (304 + 2) w3.heap.size (3 + x / 11).toNat 5 [0, 100, 500, -1, 501] w4 HC4.out (by decide) (by omega) HL4.out (by omega) (by omega) (by simp; omega) (by decide)).mono ?_
  rintro e w5 ⟨a, rfl, hD⟩
  have HO5 := Lib.hid (Own.keptC HO4.out hD.2 (by omega))
  have HB5 := Lib.hid (HB4.out.trans (hD.2.lowB (Nat.le_refl _) (by omega)))
  have HC5 := Lib.hid hD.1
  have hz5 := hD.2.size
  clear hD
  clear HL4 HO4 HB4 HC4 hx x0 x1
  go_wp2
  go_ret3
  exact ⟨m, b1, c1, f, t, a, rfl, hm, HO5.out.more (by omega), HB5.out⟩
theorem DrawShallowestOf_any (n c : Nat) (A : Option Addr) (B : Nat → Int) (w : World) (hR : ∀ i, 0 ≤ B i ∧ B i ≤ 255) (hS : Sl w 1 A n (fun i _ => .int .u8 (B i))) (hn : n ≤ 65536) :
    Calls Tryd.prog 22 #[.slice A n c] w fun e w' => ∃ (m b' c' : Nat) (f : Nat → DG) (x : Int), e = .returned (.tuple #[.slice (some ⟨b', 0, none⟩) m c', .int .i64 x]) ∧ m ≤ 13 ∧ Own w' w.heap.size 7 (some ⟨b', 0, none⟩) m (fun i j => (f i).cell j) ∧ Below w.heap.size w w' := by
  have HR := Lib.hid hR
  have HS := Lib.hid hS
  clear hR hS
  go_enter Tryd.func22, Tryd.ntmps22
  go_wp2_with fail
  refine (dangers_any w.heap.size A n c 0 _ (curS_new (blk_newC w rfl) HR.out HS.out (by repeat' (first | (with_reducible exact Below.refl _ _) | (with_reducible assumption) | (with_reducible refine Below.alloc ?_ ?_ _) | (with_reducible refine Below.drew ?_) | (with_reducible refine Below.setCell ?_ ?_ _) | (with_reducible refine Below.stepB (by assumption) ?_ ?_) | go_size)) (Nat.le_refl _)) (by decide) (by omega)).mono ?_
  rintro e w1 ⟨m, b1, c1, f, rfl, hm, hcap, hO, hD⟩
  have HB1 := Lib.hid ((show Below w.heap.size w _ from by repeat' (first | (with_reducible exact Below.refl _ _) | (with_reducible assumption) | (with_reducible refine Below.alloc ?_ ?_ _) | (with_reducible refine Below.drew ?_) | (with_reducible refine Below.setCell ?_ ?_ _) | (with_reducible refine Below.stepB (by assumption) ?_ ?_) | go_size)).trans (hD.2.lowB (Nat.le_refl _) (by simp)))
  have HO1 := Lib.hid (hO.more (lo' := w.heap.size + 1) (by simp))
  have HC1 := Lib.hid hD.1
  have hz1 := hD.2.size
  (try simp at hz1)
  clear hO hD
  go_wp2_with fail
  refine (pick_any w.heap.size A n c 300 24 _ (HC1.out.below (by repeat' (first | (with_reducible exact Below.refl _ _) | (with_reducible assumption) | (with_reducible refine Below.alloc ?_ ?_ _) | (with_reducible refine Below.drew ?_) | (with_reducible refine Below.setCell ?_ ?_ _) | (with_reducible refine Below.stepB (by assumption) ?_ ?_) | go_size))) (by decide) (by omega) (by decide)).mono ?_
  rintro e w2 ⟨x, rfl, x0, x1, hD⟩
  have hx : x < 24 := by omega
  have HL2 := Lib.hid (Blk.keptC (blk_newC (g := w1.heap.size) (t := 3) (cs := (([0, 1, 2, -1, 3] : List Int).map (Value.int .i64)).toArray) w1 rfl) hD.2 (by omega))
  have HO2 := Lib.hid (Own.keptC (HO1.out.allocd _) hD.2 (by omega))
  have HB2 := Lib.hid ((show Below w.heap.size w _ from Below.alloc HB1.out (by omega) _).trans (hD.2.lowB (Nat.le_refl _) (by simp; omega)))
  have HC2 := Lib.hid hD.1
  have hz2 := hD.2.size
  (try simp at hz2)
  clear hD
  go_wp2_with fail
  refine (among_any w.heap.size A n c (300 + 2) w1.heap.size (3 + x / 11).toNat 5 [0, 1, 2, -1, 3] w2 HC2.out (by decide) (by omega) HL2.out (by omega) (by omega) (by simp; omega) (by decide)).mono ?_
  rintro e w3 ⟨t, rfl, hD⟩
  have HO3 := Lib.hid (Own.keptC HO2.out hD.2 (by omega))
  have HB3 := Lib.hid (HB2.out.trans (hD.2.lowB (Nat.le_refl _) (by omega)))
  have HC3 := Lib.hid hD.1
  have hz3 := hD.2.size
  clear hD
  clear HL2 HO2 HB2 HC2 hx x0 x1
  go_wp2
  go_ret2
  exact ⟨m, b1, c1, f, t, rfl, hm, HO3.out.more (by omega), HB3.out⟩
theorem DrawSeeAgain_any (n c : Nat) (A : Option Addr) (B : Nat → Int) (w : World) (hR : ∀ i, 0 ≤ B i ∧ B i ≤ 255) (hS : Sl w 1 A n (fun i _ => .int .u8 (B i))) (hn : n ≤ 65536) :
    Calls Tryd.prog 18 #[.slice A n c] w fun e w' => ∃ (m b' c' : Nat) (f : Nat → DG) (x y z u : Int), e = .returned (.tuple #[.slice (some ⟨b', 0, none⟩) m c', .int .i64 x, .int .i64 y, .int .i64 z, .int .i64 u]) ∧ m ≤ 13 ∧ Own w' w.heap.size 7 (some ⟨b', 0, none⟩) m (fun i j => (f i).cell j) ∧ Below w.heap.size w w' := by
  have HR := Lib.hid hR
  have HS := Lib.hid hS
  clear hR hS
  go_enter Tryd.func18, Tryd.ntmps18
  go_wp2_with fail
  refine (dangers_any w.heap.size A n c 0 _ (curS_new (blk_newC w rfl) HR.out HS.out (by repeat' (first | (with_reducible exact Below.refl _ _) | (with_reducible assumption) | (with_reducible refine Below.alloc ?_ ?_ _) | (with_reducible refine Below.drew ?_) | (with_reducible refine Below.setCell ?_ ?_ _) | (with_reducible refine Below.stepB (by assumption) ?_ ?_) | go_size)) (Nat.le_refl _)) (by decide) (by omega)).mono ?_
  rintro e w1 ⟨m, b1, c1, f, rfl, hm, hcap, hO, hD⟩
  have HB1 := Lib.hid ((show Below w.heap.size w _ from by repeat' (first | (with_reducible exact Below.refl _ _) | (with_reducible assumption) | (with_reducible refine Below.alloc ?_ ?_ _) | (with_reducible refine Below.drew ?_) | (with_reducible refine Below.setCell ?_ ?_ _) | (with_reducible refine Below.stepB (by assumption) ?_ ?_) | go_size)).trans (hD.2.lowB (Nat.le_refl _) (by simp)))
  have HO1 := Lib.hid (hO.more (lo' := w.heap.size + 1) (by simp))
  have HC1 := Lib.hid hD.1
  have hz1 := hD.2.size
  (try simp at hz1)
  clear hO hD
  go_wp2_with fail
  refine (dangerId_any w.heap.size A n c 300 m b1 c1 (w.heap.size + 1) f w1 HC1.out (by decide) (by omega) HO1.out (by omega) hm).mono ?_
  rintro e w2 ⟨id, rfl, hD⟩
  have HO2 := Lib.hid (Own.keptC HO1.out hD.2 (by omega))
  have HB2 := Lib.hid (HB1.out.trans (hD.2.lowB (Nat.le_refl _) (by omega)))
  have HC2 := Lib.hid hD.1
  have hz2 := hD.2.size
  clear hD
  go_wp2_with fail
  refine (time17_any w.heap.size A n c 306 w2 HC2.out (by decide) (by omega)).mono ?_
  rintro e w3 ⟨ti, rfl, hD⟩
  have HO3 := Lib.hid (Own.keptC HO2.out hD.2 (by omega))
  have HB3 := Lib.hid (HB2.out.trans (hD.2.lowB (Nat.le_refl _) (by omega)))
  have HC3 := Lib.hid hD.1
  have hz3 := hD.2.size
  clear hD
  go_wp2_with fail
  refine (pick_any w.heap.size A n c 310 24 _ (HC3.out.below (by repeat' (first | (with_reducible exact Below.refl _ _) | (with_reducible assumption) | (with_reducible refine Below.alloc ?_ ?_ _) | (with_reducible refine Below.drew ?_) | (with_reducible refine Below.setCell ?_ ?_ _) | (with_reducible refine Below.stepB (by assumption) ?_ ?_) | go_size))) (by decide) (by omega) (by decide)).mono ?_
  rintro e w4 ⟨x, rfl, x0, x1, hD⟩
  have hx : x < 24 := by omega
  have HL4 := Lib.hid (Blk.keptC (blk_newC (g := w3.heap.size) (t := 3) (cs := (([-1000, 90, 20000, -1001, 20001] : List Int).map (Value.int .i64)).toArray) w3 rfl) hD.2 (by omega))
  have HO4 := Lib.hid (Own.keptC (HO3.out.allocd _) hD.2 (by omega))
  have HB4 := Lib.hid ((show Below w.heap.size w _ from Below.alloc HB3.out (by omega) _).trans (hD.2.lowB (Nat.le_refl _) (by simp; omega)))
  have HC4 := Lib.hid hD.1
  have hz4 := hD.2.size
  (try simp at hz4)
  clear hD
  go_wp2_with fail
  refine (among_any w.heap.size A n c (310 + 2) w3.heap.size (3 + x / 11).toNat 5 [-1000, 90, 20000, -1001, 20001] w4 HC4.out (by decide) (by omega) HL4.out (by omega) (by omega) (by simp; omega) (by decide)).mono ?_
  rintro e w5 ⟨le, rfl, hD⟩
  have HO5 := Lib.hid (Own.keptC HO4.out hD.2 (by omega))
  have HB5 := Lib.hid (HB4.out.trans (hD.2.lowB (Nat.le_refl _) (by omega)))
  have HC5 := Lib.hid hD.1
  have hz5 := hD.2.size
  clear hD
  clear HL4 HO4 HB4 HC4 hx x0 x1
  go_wp2_with fail
  refine (pick_any w.heap.size A n c 314 24 _ (HC5.out.below (by repeat' (first | (with_reducible exact Below.refl _ _) | (with_reducible assumption) | (with_reducible refine Below.alloc ?_ ?_ _) | (with_reducible refine Below.drew ?_) | (with_reducible refine Below.setCell ?_ ?_ _) | (with_reducible refine Below.stepB (by assumption) ?_ ?_) | go_size))) (by decide) (by omega) (by decide)).mono ?_
  rintro e w6 ⟨x, rfl, x0, x1, hD⟩
  have hx : x < 24 := by omega
  have HL6 := Lib.hid (Blk.keptC (blk_newC (g := w5.heap.size) (t := 3) (cs := (([0, 0, 1, 2, -1, 3] : List Int).map (Value.int .i64)).toArray) w5 rfl) hD.2 (by omega))
  have HO6 := Lib.hid (Own.keptC (HO5.out.allocd _) hD.2 (by omega))
  have HB6 := Lib.hid ((show Below w.heap.size w _ from Below.alloc HB5.out (by omega) _).trans (hD.2.lowB (Nat.le_refl _) (by simp; omega)))
  have HC6 := Lib.hid hD.1
  have hz6 := hD.2.size
  (try simp at hz6)
  clear hD
  go_wp2_with fail
  refine (among_any w.heap.size A n c (314 + 2) w5.heap.size (4 + x / 11).toNat 6 [0, 0, 1, 2, -1, 3] w6 HC6.out (by decide) (by omega) HL6.out (by omega) (by omega) (by simp; omega) (by decide)).mono ?_
  rintro e w7 ⟨qu, rfl, hD⟩
  have HO7 := Lib.hid (Own.keptC HO6.out hD.2 (by omega))
  have HB7 := Lib.hid (HB6.out.trans (hD.2.lowB (Nat.le_refl _) (by omega)))
  have HC7 := Lib.hid hD.1
  have hz7 := hD.2.size
  clear hD
  clear HL6 HO6 HB6 HC6 hx x0 x1
  go_wp2
  go_returns
  exact ⟨m, b1, c1, f, id, ti, le, qu, rfl, hm, HO7.out.more (by omega), HB7.out⟩
end Go.Proofs.YtclcgckledbpfaaDoor
