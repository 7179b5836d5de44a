/- Contracts: the drawn arguments of the laws on bottoms. -/
import Derived.Test.YtfecepjdjikenaaCurC
namespace Go.Proofs.Ytfecepjdjikenaa
open Go.RowKit
theorem DrawAnchor_any (n c : Nat) (A : Option Addr) (B : Nat → Int) (w : World) (hR : ∀ i, 0 ≤ B i ∧ B i ≤ 255) (hS : Sl w 1 A n (fun i _ => .int .u8 (B i))) (hn : n ≤ 65536) :
    Calls Try.prog 55 #[.slice A n c] w fun e w' => ∃ (m b' c' : Nat) (f : Nat → BS) (x : Int), e = .returned (.tuple #[.slice (some ⟨b', 0, none⟩) m c', .int .i64 x]) ∧ m ≤ 13 ∧ Own w' w.heap.size 6 (some ⟨b', 0, none⟩) m (fun i j => (f i).cell j) ∧ Below w.heap.size w w' := by
  have HR := Lib.hid hR
  have HS := Lib.hid hS
  clear hR hS
  go_enter Try.func55, Try.ntmps55
  go_wp2_with fail
  refine (bottoms_any w.heap.size A n c 0 _ (curS_new (blk_newC w rfl) HR.out HS.out (by repeat' (first | (with_reducible exact Below.refl _ _) | (with_reducible assumption) | (with_reducible refine Below.alloc ?_ ?_ _) | (with_reducible refine Below.drew ?_) | (with_reducible refine Below.setCell ?_ ?_ _) | (with_reducible refine Below.stepB (by assumption) ?_ ?_) | go_size)) (Nat.le_refl _)) (by decide) (by omega)).mono ?_
  rintro e w1 ⟨m, b1, c1, f, rfl, hm, hO, hD⟩
  have HB1 := Lib.hid ((show Below w.heap.size w _ from by repeat' (first | (with_reducible exact Below.refl _ _) | (with_reducible assumption) | (with_reducible refine Below.alloc ?_ ?_ _) | (with_reducible refine Below.drew ?_) | (with_reducible refine Below.setCell ?_ ?_ _) | (with_reducible refine Below.stepB (by assumption) ?_ ?_) | go_size)).trans (hD.2.lowB (Nat.le_refl _) (by simp)))
  have HO1 := Lib.hid hO
  have HC1 := Lib.hid hD.1
  have hz1 := hD.2.size
  (try simp at hz1)
  clear hO hD
  go_wp2_with fail
  refine (pick_any w.heap.size A n c 200 24 _ (HC1.out.below (by repeat' (first | (with_reducible exact Below.refl _ _) | (with_reducible assumption) | (with_reducible refine Below.alloc ?_ ?_ _) | (with_reducible refine Below.drew ?_) | (with_reducible refine Below.setCell ?_ ?_ _) | (with_reducible refine Below.stepB (by assumption) ?_ ?_) | go_size))) (by decide) (by omega) (by decide)).mono ?_
  rintro e w2 ⟨x, rfl, x0, x1, hD⟩
  have hx : x < 24 := by omega
  have HL2 := Lib.hid (Blk.keptC (blk_newC (g := w1.heap.size) (t := 3) (cs := (([0, 25, 50, 75, 100, -1, 101] : List Int).map (Value.int .i64)).toArray) w1 rfl) hD.2 (by omega))
  have HO2 := Lib.hid (Own.keptC (HO1.out.allocd _) hD.2 (by simp))
  have HB2 := Lib.hid ((show Below w.heap.size w _ from Below.alloc HB1.out (by omega) _).trans (hD.2.lowB (Nat.le_refl _) (by simp; omega)))
  have HC2 := Lib.hid hD.1
  have hz2 := hD.2.size
  (try simp at hz2)
  clear hD
  go_wp2_with fail
  refine (among_any w.heap.size A n c 202 w1.heap.size (5 + x / 11).toNat 7 [0, 25, 50, 75, 100, -1, 101] w2 HC2.out (by decide) (by omega) HL2.out (by omega) (by omega) (by simp; omega) (by decide)).mono ?_
  rintro e w3 ⟨y, rfl, hD⟩
  have HO3 := Lib.hid (Own.keptC HO2.out hD.2 (by simp))
  have HB3 := Lib.hid (HB2.out.trans (hD.2.lowB (Nat.le_refl _) (by omega)))
  clear hD
  go_wp2
  go_ret2
  exact ⟨m, b1, c1, f, y, rfl, hm, HO3.out.more (by simp), HB3.out⟩
theorem DrawCounts_any (n c : Nat) (A : Option Addr) (B : Nat → Int) (w : World) (hR : ∀ i, 0 ≤ B i ∧ B i ≤ 255) (hS : Sl w 1 A n (fun i _ => .int .u8 (B i))) (hn : n ≤ 65536) :
    Calls Try.prog 91 #[.slice A n c] w fun e w' => ∃ (m b' c' : Nat) (f : Nat → BS), e = .returned (.slice (some ⟨b', 0, none⟩) m c') ∧ m ≤ 13 ∧ Own w' w.heap.size 6 (some ⟨b', 0, none⟩) m (fun i j => (f i).cell j) ∧ Below w.heap.size w w' := by
  have HR := Lib.hid hR
  have HS := Lib.hid hS
  clear hR hS
  go_enter Try.func91, Try.ntmps91
  go_wp2_with fail
  refine (bottoms_any w.heap.size A n c 0 _ (curS_new (blk_newC w rfl) HR.out HS.out (by repeat' (first | (with_reducible exact Below.refl _ _) | (with_reducible assumption) | (with_reducible refine Below.alloc ?_ ?_ _) | (with_reducible refine Below.drew ?_) | (with_reducible refine Below.setCell ?_ ?_ _) | (with_reducible refine Below.stepB (by assumption) ?_ ?_) | go_size)) (Nat.le_refl _)) (by decide) (by omega)).mono ?_
  rintro e w1 ⟨m, b1, c1, f, rfl, hm, hO, hD⟩
  have HB1 := Lib.hid ((show Below w.heap.size w _ from by repeat' (first | (with_reducible exact Below.refl _ _) | (with_reducible assumption) | (with_reducible refine Below.alloc ?_ ?_ _) | (with_reducible refine Below.drew ?_) | (with_reducible refine Below.setCell ?_ ?_ _) | (with_reducible refine Below.stepB (by assumption) ?_ ?_) | go_size)).trans (hD.2.lowB (Nat.le_refl _) (by simp)))
  have HO1 := Lib.hid hO
  clear hO hD
  go_wp2
  go_ret
  exact ⟨m, b1, c1, f, rfl, hm, HO1.out.more (by simp), HB1.out⟩
theorem DrawLetterCounts_any (n c : Nat) (A : Option Addr) (B : Nat → Int) (w : World) (hR : ∀ i, 0 ≤ B i ∧ B i ≤ 255) (hS : Sl w 1 A n (fun i _ => .int .u8 (B i))) (hn : n ≤ 65536) :
    Calls Try.prog 57 #[.slice A n c] w fun e w' => ∃ (m b' c' : Nat) (f : Nat → BS), e = .returned (.slice (some ⟨b', 0, none⟩) m c') ∧ m ≤ 13 ∧ Own w' w.heap.size 6 (some ⟨b', 0, none⟩) m (fun i j => (f i).cell j) ∧ Below w.heap.size w w' := by
  have HD := Lib.hid (DrawCounts_any n c A B w hR hS hn)
  clear hR hS
  go_enter Try.func57, Try.ntmps57
  go_wp2_with fail
  refine HD.out.mono ?_
  rintro e w1 ⟨m, b1, c1, f, rfl, hm, hO, hB⟩
  have HO1 := Lib.hid hO
  have HB1 := Lib.hid hB
  clear hO hB
  go_wp2
  go_ret
  exact ⟨m, b1, c1, f, rfl, hm, HO1.out, HB1.out⟩
theorem DrawIsSample_any (n c : Nat) (A : Option Addr) (B : Nat → Int) (w : World) (hR : ∀ i, 0 ≤ B i ∧ B i ≤ 255) (hS : Sl w 1 A n (fun i _ => .int .u8 (B i))) (hn : n ≤ 65536) :
    Calls Try.prog 87 #[.slice A n c] w fun e w' => ∃ s : BS, e = .returned (.agg #[.int .i64 s.id, .int .i64 s.x, .int .i64 s.y, .int .i64 s.mud, .int .i64 s.sand, .int .i64 s.rock]) ∧ Below w.heap.size w w' := by
  have HR := Lib.hid hR
  have HS := Lib.hid hS
  clear hR hS
  go_enter Try.func87, Try.ntmps87
  go_wp2_with fail
  refine (among_any (w.heap.size + 1) A n c 0 (w.heap.size + 2) 3 3 [1, 42, 999] _ ((curS_new (blk_newC (w.alloc (.cells #[.int .i64 0, .int .i64 0, .int .i64 0, .int .i64 0, .int .i64 0, .int .i64 0] 29)) (by simp)) HR.out HS.out (by repeat' (first | (with_reducible exact Below.refl _ _) | (with_reducible assumption) | (with_reducible refine Below.alloc ?_ ?_ _) | (with_reducible refine Below.drew ?_) | (with_reducible refine Below.setCell ?_ ?_ _) | (with_reducible refine Below.stepB (by assumption) ?_ ?_) | go_size)) (by omega)).below (by repeat' (first | (with_reducible exact Below.refl _ _) | (with_reducible assumption) | (with_reducible refine Below.alloc ?_ ?_ _) | (with_reducible refine Below.drew ?_) | (with_reducible refine Below.setCell ?_ ?_ _) | (with_reducible refine Below.stepB (by assumption) ?_ ?_) | go_size))) (by decide) (by omega) (blk_newC _ (by simp)) (by omega) (by decide) (by decide) (by decide)).mono ?_
  rintro e w1 ⟨x, rfl, hD⟩
  have HT1 := Lib.hid (Blk.keptC (((blk_newC (g := w.heap.size) (t := 29) (cs := #[.int .i64 0, .int .i64 0, .int .i64 0, .int .i64 0, .int .i64 0, .int .i64 0]) w rfl).alloc _).alloc _) hD.2 (by omega))
  have HB1 := Lib.hid ((show Below w.heap.size w _ from by repeat' (first | (with_reducible exact Below.refl _ _) | (with_reducible assumption) | (with_reducible refine Below.alloc ?_ ?_ _) | (with_reducible refine Below.drew ?_) | (with_reducible refine Below.setCell ?_ ?_ _) | (with_reducible refine Below.stepB (by assumption) ?_ ?_) | go_size)).trans (hD.2.lowB (B := w.heap.size) (by omega) (by simp; omega)))
  have HC1 := Lib.hid hD.1
  have hz1 := hD.2.size
  (try simp at hz1)
  clear hD
  go_wp2_with fail
  refine (bottom_any (w.heap.size + 1) A n c 2 x w1 HC1.out (by decide) (by omega)).mono ?_
  rintro e w2 ⟨s, rfl, hD⟩
  have HT2 := Lib.hid (Blk.keptC HT1.out hD.2 (by omega))
  have HB2 := Lib.hid (HB1.out.trans (hD.2.lowB (B := w.heap.size) (by omega) (by omega)))
  clear hD
  have e0 : ∀ v0 : Value, (w2.setCell ⟨w.heap.size, 0, none⟩ v0).cell? ⟨w.heap.size, 0, none⟩ = some v0 := fun v0 => (HT2.out.set_ 0 v0).cell 0
  have e1 : ∀ v0 v1 : Value, ((w2.setCell ⟨w.heap.size, 0, none⟩ v0).setCell ⟨w.heap.size, 1, none⟩ v1).cell? ⟨w.heap.size, 1, none⟩ = some v1 := fun v0 v1 => ((HT2.out.set_ 0 v0).set_ 1 v1).cell 1
  have e2 : ∀ v0 v1 v2 : Value, (((w2.setCell ⟨w.heap.size, 0, none⟩ v0).setCell ⟨w.heap.size, 1, none⟩ v1).setCell ⟨w.heap.size, 2, none⟩ v2).cell? ⟨w.heap.size, 2, none⟩ = some v2 := fun v0 v1 v2 => (((HT2.out.set_ 0 v0).set_ 1 v1).set_ 2 v2).cell 2
  have e3 : ∀ v0 v1 v2 v3 : Value, ((((w2.setCell ⟨w.heap.size, 0, none⟩ v0).setCell ⟨w.heap.size, 1, none⟩ v1).setCell ⟨w.heap.size, 2, none⟩ v2).setCell ⟨w.heap.size, 3, none⟩ v3).cell? ⟨w.heap.size, 3, none⟩ = some v3 := fun v0 v1 v2 v3 => ((((HT2.out.set_ 0 v0).set_ 1 v1).set_ 2 v2).set_ 3 v3).cell 3
  have e4 : ∀ v0 v1 v2 v3 v4 : Value, (((((w2.setCell ⟨w.heap.size, 0, none⟩ v0).setCell ⟨w.heap.size, 1, none⟩ v1).setCell ⟨w.heap.size, 2, none⟩ v2).setCell ⟨w.heap.size, 3, none⟩ v3).setCell ⟨w.heap.size, 4, none⟩ v4).cell? ⟨w.heap.size, 4, none⟩ = some v4 := fun v0 v1 v2 v3 v4 => (((((HT2.out.set_ 0 v0).set_ 1 v1).set_ 2 v2).set_ 3 v3).set_ 4 v4).cell 4
  have e5 : ∀ v0 v1 v2 v3 v4 v5 : Value, ((((((w2.setCell ⟨w.heap.size, 0, none⟩ v0).setCell ⟨w.heap.size, 1, none⟩ v1).setCell ⟨w.heap.size, 2, none⟩ v2).setCell ⟨w.heap.size, 3, none⟩ v3).setCell ⟨w.heap.size, 4, none⟩ v4).setCell ⟨w.heap.size, 5, none⟩ v5).cell? ⟨w.heap.size, 5, none⟩ = some v5 := fun v0 v1 v2 v3 v4 v5 => ((((((HT2.out.set_ 0 v0).set_ 1 v1).set_ 2 v2).set_ 3 v3).set_ 4 v4).set_ 5 v5).cell 5
  have et0 : w2.cell? ⟨w.heap.size, 0, none⟩ = some (.int .i64 0) := HT2.out.cell 0
  have et1 : w2.cell? ⟨w.heap.size, 1, none⟩ = some (.int .i64 0) := HT2.out.cell 1
  have et2 : w2.cell? ⟨w.heap.size, 2, none⟩ = some (.int .i64 0) := HT2.out.cell 2
  have et3 : w2.cell? ⟨w.heap.size, 3, none⟩ = some (.int .i64 0) := HT2.out.cell 3
  have et4 : w2.cell? ⟨w.heap.size, 4, none⟩ = some (.int .i64 0) := HT2.out.cell 4
  have et5 : w2.cell? ⟨w.heap.size, 5, none⟩ = some (.int .i64 0) := HT2.out.cell 5
  have ef := HT2.out.frozen
  have el := HT2.out.lt
  go_wp2
  (try simp only [Exit.inBlock, Exit.then])
  refine bodyPost_ret (by simp [results, Try.results87, go_sem, e0, e1, e2, e3, e4, e5]; try rfl) rfl ?_
  have hb := HB2.out
  refine ⟨s, rfl, ?_⟩
  repeat' (first | (with_reducible exact Below.refl _ _) | (with_reducible assumption) | (with_reducible refine Below.alloc ?_ ?_ _) | (with_reducible refine Below.drew ?_) | (with_reducible refine Below.setCell ?_ ?_ _) | (with_reducible refine Below.stepB (by assumption) ?_ ?_) | go_size)
theorem DrawHoldingOf_any (n c : Nat) (A : Option Addr) (B : Nat → Int) (w : World) (hR : ∀ i, 0 ≤ B i ∧ B i ≤ 255) (hS : Sl w 1 A n (fun i _ => .int .u8 (B i))) (hn : n ≤ 65536) :
    Calls Try.prog 61 #[.slice A n c] w fun e w' => ∃ s : BS, e = .returned (.agg #[.int .i64 s.id, .int .i64 s.x, .int .i64 s.y, .int .i64 s.mud, .int .i64 s.sand, .int .i64 s.rock]) ∧ Below w.heap.size w w' := by
  have HD := Lib.hid (fun W (hb : Below w.heap.size w W) => DrawIsSample_any n c A B W hR (hS.below hb) hn)
  clear hR hS
  go_enter Try.func61, Try.ntmps61
  go_wp2_with fail
  refine (HD.out _ (by repeat' (first | (with_reducible exact Below.refl _ _) | (with_reducible assumption) | (with_reducible refine Below.alloc ?_ ?_ _) | (with_reducible refine Below.drew ?_) | (with_reducible refine Below.setCell ?_ ?_ _) | (with_reducible refine Below.stepB (by assumption) ?_ ?_) | go_size))).mono ?_
  rintro e w1 ⟨s, rfl, hb1⟩
  have HT1 := Lib.hid (Blk.below (blk_newC (g := w.heap.size) (t := 29) (cs := #[.int .i64 0, .int .i64 0, .int .i64 0, .int .i64 0, .int .i64 0, .int .i64 0]) w rfl) hb1 (by simp))
  have HB1 := Lib.hid (show Below w.heap.size w w1 from by repeat' (first | (with_reducible exact Below.refl _ _) | (with_reducible assumption) | (with_reducible refine Below.alloc ?_ ?_ _) | (with_reducible refine Below.drew ?_) | (with_reducible refine Below.setCell ?_ ?_ _) | (with_reducible refine Below.stepB (by assumption) ?_ ?_) | go_size))
  clear hb1
  have e0 : ∀ v0 : Value, (w1.setCell ⟨w.heap.size, 0, none⟩ v0).cell? ⟨w.heap.size, 0, none⟩ = some v0 := fun v0 => (HT1.out.set_ 0 v0).cell 0
  have e1 : ∀ v0 v1 : Value, ((w1.setCell ⟨w.heap.size, 0, none⟩ v0).setCell ⟨w.heap.size, 1, none⟩ v1).cell? ⟨w.heap.size, 1, none⟩ = some v1 := fun v0 v1 => ((HT1.out.set_ 0 v0).set_ 1 v1).cell 1
  have e2 : ∀ v0 v1 v2 : Value, (((w1.setCell ⟨w.heap.size, 0, none⟩ v0).setCell ⟨w.heap.size, 1, none⟩ v1).setCell ⟨w.heap.size, 2, none⟩ v2).cell? ⟨w.heap.size, 2, none⟩ = some v2 := fun v0 v1 v2 => (((HT1.out.set_ 0 v0).set_ 1 v1).set_ 2 v2).cell 2
  have e3 : ∀ v0 v1 v2 v3 : Value, ((((w1.setCell ⟨w.heap.size, 0, none⟩ v0).setCell ⟨w.heap.size, 1, none⟩ v1).setCell ⟨w.heap.size, 2, none⟩ v2).setCell ⟨w.heap.size, 3, none⟩ v3).cell? ⟨w.heap.size, 3, none⟩ = some v3 := fun v0 v1 v2 v3 => ((((HT1.out.set_ 0 v0).set_ 1 v1).set_ 2 v2).set_ 3 v3).cell 3
  have e4 : ∀ v0 v1 v2 v3 v4 : Value, (((((w1.setCell ⟨w.heap.size, 0, none⟩ v0).setCell ⟨w.heap.size, 1, none⟩ v1).setCell ⟨w.heap.size, 2, none⟩ v2).setCell ⟨w.heap.size, 3, none⟩ v3).setCell ⟨w.heap.size, 4, none⟩ v4).cell? ⟨w.heap.size, 4, none⟩ = some v4 := fun v0 v1 v2 v3 v4 => (((((HT1.out.set_ 0 v0).set_ 1 v1).set_ 2 v2).set_ 3 v3).set_ 4 v4).cell 4
  have e5 : ∀ v0 v1 v2 v3 v4 v5 : Value, ((((((w1.setCell ⟨w.heap.size, 0, none⟩ v0).setCell ⟨w.heap.size, 1, none⟩ v1).setCell ⟨w.heap.size, 2, none⟩ v2).setCell ⟨w.heap.size, 3, none⟩ v3).setCell ⟨w.heap.size, 4, none⟩ v4).setCell ⟨w.heap.size, 5, none⟩ v5).cell? ⟨w.heap.size, 5, none⟩ = some v5 := fun v0 v1 v2 v3 v4 v5 => ((((((HT1.out.set_ 0 v0).set_ 1 v1).set_ 2 v2).set_ 3 v3).set_ 4 v4).set_ 5 v5).cell 5
  have et0 : w1.cell? ⟨w.heap.size, 0, none⟩ = some (.int .i64 0) := HT1.out.cell 0
  have et1 : w1.cell? ⟨w.heap.size, 1, none⟩ = some (.int .i64 0) := HT1.out.cell 1
  have et2 : w1.cell? ⟨w.heap.size, 2, none⟩ = some (.int .i64 0) := HT1.out.cell 2
  have et3 : w1.cell? ⟨w.heap.size, 3, none⟩ = some (.int .i64 0) := HT1.out.cell 3
  have et4 : w1.cell? ⟨w.heap.size, 4, none⟩ = some (.int .i64 0) := HT1.out.cell 4
  have et5 : w1.cell? ⟨w.heap.size, 5, none⟩ = some (.int .i64 0) := HT1.out.cell 5
  have ef := HT1.out.frozen
  have el := HT1.out.lt
  go_wp2
  (try simp only [Exit.inBlock, Exit.then])
  refine bodyPost_ret (by simp [results, Try.results61, go_sem, e0, e1, e2, e3, e4, e5]; try rfl) rfl ?_
  have hb := HB1.out
  refine ⟨s, rfl, ?_⟩
  repeat' (first | (with_reducible exact Below.refl _ _) | (with_reducible assumption) | (with_reducible refine Below.alloc ?_ ?_ _) | (with_reducible refine Below.drew ?_) | (with_reducible refine Below.setCell ?_ ?_ _) | (with_reducible refine Below.stepB (by assumption) ?_ ?_) | go_size)
theorem DrawLettersOf_any (n c : Nat) (A : Option Addr) (B : Nat → Int) (w : World) (hR : ∀ i, 0 ≤ B i ∧ B i ≤ 255) (hS : Sl w 1 A n (fun i _ => .int .u8 (B i))) (hn : n ≤ 65536) :
    Calls Try.prog 54 #[.slice A n c] w fun e w' => ∃ s : BS, e = .returned (.agg #[.int .i64 s.id, .int .i64 s.x, .int .i64 s.y, .int .i64 s.mud, .int .i64 s.sand, .int .i64 s.rock]) ∧ Below w.heap.size w w' := by
  have HD := Lib.hid (fun W (hb : Below w.heap.size w W) => DrawIsSample_any n c A B W hR (hS.below hb) hn)
  clear hR hS
  go_enter Try.func54, Try.ntmps54
  go_wp2_with fail
  refine (HD.out _ (by repeat' (first | (with_reducible exact Below.refl _ _) | (with_reducible assumption) | (with_reducible refine Below.alloc ?_ ?_ _) | (with_reducible refine Below.drew ?_) | (with_reducible refine Below.setCell ?_ ?_ _) | (with_reducible refine Below.stepB (by assumption) ?_ ?_) | go_size))).mono ?_
  rintro e w1 ⟨s, rfl, hb1⟩
  have HT1 := Lib.hid (Blk.below (blk_newC (g := w.heap.size) (t := 29) (cs := #[.int .i64 0, .int .i64 0, .int .i64 0, .int .i64 0, .int .i64 0, .int .i64 0]) w rfl) hb1 (by simp))
  have HB1 := Lib.hid (show Below w.heap.size w w1 from by repeat' (first | (with_reducible exact Below.refl _ _) | (with_reducible assumption) | (with_reducible refine Below.alloc ?_ ?_ _) | (with_reducible refine Below.drew ?_) | (with_reducible refine Below.setCell ?_ ?_ _) | (with_reducible refine Below.stepB (by assumption) ?_ ?_) | go_size))
  clear hb1
  have e0 : ∀ v0 : Value, (w1.setCell ⟨w.heap.size, 0, none⟩ v0).cell? ⟨w.heap.size, 0, none⟩ = some v0 := fun v0 => (HT1.out.set_ 0 v0).cell 0
  have e1 : ∀ v0 v1 : Value, ((w1.setCell ⟨w.heap.size, 0, none⟩ v0).setCell ⟨w.heap.size, 1, none⟩ v1).cell? ⟨w.heap.size, 1, none⟩ = some v1 := fun v0 v1 => ((HT1.out.set_ 0 v0).set_ 1 v1).cell 1
  have e2 : ∀ v0 v1 v2 : Value, (((w1.setCell ⟨w.heap.size, 0, none⟩ v0).setCell ⟨w.heap.size, 1, none⟩ v1).setCell ⟨w.heap.size, 2, none⟩ v2).cell? ⟨w.heap.size, 2, none⟩ = some v2 := fun v0 v1 v2 => (((HT1.out.set_ 0 v0).set_ 1 v1).set_ 2 v2).cell 2
  have e3 : ∀ v0 v1 v2 v3 : Value, ((((w1.setCell ⟨w.heap.size, 0, none⟩ v0).setCell ⟨w.heap.size, 1, none⟩ v1).setCell ⟨w.heap.size, 2, none⟩ v2).setCell ⟨w.heap.size, 3, none⟩ v3).cell? ⟨w.heap.size, 3, none⟩ = some v3 := fun v0 v1 v2 v3 => ((((HT1.out.set_ 0 v0).set_ 1 v1).set_ 2 v2).set_ 3 v3).cell 3
  have e4 : ∀ v0 v1 v2 v3 v4 : Value, (((((w1.setCell ⟨w.heap.size, 0, none⟩ v0).setCell ⟨w.heap.size, 1, none⟩ v1).setCell ⟨w.heap.size, 2, none⟩ v2).setCell ⟨w.heap.size, 3, none⟩ v3).setCell ⟨w.heap.size, 4, none⟩ v4).cell? ⟨w.heap.size, 4, none⟩ = some v4 := fun v0 v1 v2 v3 v4 => (((((HT1.out.set_ 0 v0).set_ 1 v1).set_ 2 v2).set_ 3 v3).set_ 4 v4).cell 4
  have e5 : ∀ v0 v1 v2 v3 v4 v5 : Value, ((((((w1.setCell ⟨w.heap.size, 0, none⟩ v0).setCell ⟨w.heap.size, 1, none⟩ v1).setCell ⟨w.heap.size, 2, none⟩ v2).setCell ⟨w.heap.size, 3, none⟩ v3).setCell ⟨w.heap.size, 4, none⟩ v4).setCell ⟨w.heap.size, 5, none⟩ v5).cell? ⟨w.heap.size, 5, none⟩ = some v5 := fun v0 v1 v2 v3 v4 v5 => ((((((HT1.out.set_ 0 v0).set_ 1 v1).set_ 2 v2).set_ 3 v3).set_ 4 v4).set_ 5 v5).cell 5
  have et0 : w1.cell? ⟨w.heap.size, 0, none⟩ = some (.int .i64 0) := HT1.out.cell 0
  have et1 : w1.cell? ⟨w.heap.size, 1, none⟩ = some (.int .i64 0) := HT1.out.cell 1
  have et2 : w1.cell? ⟨w.heap.size, 2, none⟩ = some (.int .i64 0) := HT1.out.cell 2
  have et3 : w1.cell? ⟨w.heap.size, 3, none⟩ = some (.int .i64 0) := HT1.out.cell 3
  have et4 : w1.cell? ⟨w.heap.size, 4, none⟩ = some (.int .i64 0) := HT1.out.cell 4
  have et5 : w1.cell? ⟨w.heap.size, 5, none⟩ = some (.int .i64 0) := HT1.out.cell 5
  have ef := HT1.out.frozen
  have el := HT1.out.lt
  go_wp2
  (try simp only [Exit.inBlock, Exit.then])
  refine bodyPost_ret (by simp [results, Try.results54, go_sem, e0, e1, e2, e3, e4, e5]; try rfl) rfl ?_
  have hb := HB1.out
  refine ⟨s, rfl, ?_⟩
  repeat' (first | (with_reducible exact Below.refl _ _) | (with_reducible assumption) | (with_reducible refine Below.alloc ?_ ?_ _) | (with_reducible refine Below.drew ?_) | (with_reducible refine Below.setCell ?_ ?_ _) | (with_reducible refine Below.stepB (by assumption) ?_ ?_) | go_size)
set_option maxHeartbeats 2000000 in
theorem DrawBlendSamples_any (n c : Nat) (A : Option Addr) (B : Nat → Int) (w : World) (hR : ∀ i, 0 ≤ B i ∧ B i ≤ 255) (hS : Sl w 1 A n (fun i _ => .int .u8 (B i))) (hn : n ≤ 65536) :
    Calls Try.prog 56 #[.slice A n c] w fun e w' => ∃ (s1 s2 : BS) (x : Int), e = .returned (.tuple #[.agg #[.int .i64 s1.id, .int .i64 s1.x, .int .i64 s1.y, .int .i64 s1.mud, .int .i64 s1.sand, .int .i64 s1.rock], .agg #[.int .i64 s2.id, .int .i64 s2.x, .int .i64 s2.y, .int .i64 s2.mud, .int .i64 s2.sand, .int .i64 s2.rock], .int .i64 x]) ∧ Below w.heap.size w w' := by
  have HR := Lib.hid hR
  have HS := Lib.hid hS
  clear hR hS
  go_enter Try.func56, Try.ntmps56
  go_wp2_with fail
  refine (bottom_any (w.heap.size + 2) A n c 0 5 _ (curS_new (blk_newC ((w.alloc (.cells #[.int .i64 0, .int .i64 0, .int .i64 0, .int .i64 0, .int .i64 0, .int .i64 0] 29)).alloc (.cells #[.int .i64 0, .int .i64 0, .int .i64 0, .int .i64 0, .int .i64 0, .int .i64 0] 29)) (by simp)) HR.out HS.out (by repeat' (first | (with_reducible exact Below.refl _ _) | (with_reducible assumption) | (with_reducible refine Below.alloc ?_ ?_ _) | (with_reducible refine Below.drew ?_) | (with_reducible refine Below.setCell ?_ ?_ _) | (with_reducible refine Below.stepB (by assumption) ?_ ?_) | go_size)) (by omega)) (by decide) (by omega)).mono ?_
  rintro e w1 ⟨s1, rfl, hD⟩
  have HT1 := Lib.hid (Blk.keptC (((blk_newC (g := w.heap.size) (t := 29) (cs := #[.int .i64 0, .int .i64 0, .int .i64 0, .int .i64 0, .int .i64 0, .int .i64 0]) w rfl).alloc _).alloc _) hD.2 (by omega))
  have HU1 := Lib.hid (Blk.keptC ((blk_newC (g := w.heap.size + 1) (t := 29) (cs := #[.int .i64 0, .int .i64 0, .int .i64 0, .int .i64 0, .int .i64 0, .int .i64 0]) (w.alloc (.cells #[.int .i64 0, .int .i64 0, .int .i64 0, .int .i64 0, .int .i64 0, .int .i64 0] 29)) (by simp)).alloc _) hD.2 (by omega))
  have HB1 := Lib.hid ((show Below w.heap.size w _ from by repeat' (first | (with_reducible exact Below.refl _ _) | (with_reducible assumption) | (with_reducible refine Below.alloc ?_ ?_ _) | (with_reducible refine Below.drew ?_) | (with_reducible refine Below.setCell ?_ ?_ _) | (with_reducible refine Below.stepB (by assumption) ?_ ?_) | go_size)).trans (hD.2.lowB (B := w.heap.size) (by omega) (by simp; omega)))
  have HC1 := Lib.hid hD.1
  have hz1 := hD.2.size
  (try simp at hz1)
  clear hD
  go_wp2_with fail
  refine (bottom_any (w.heap.size + 2) A n c 16 7 w1 HC1.out (by decide) (by omega)).mono ?_
  rintro e w2 ⟨s2, rfl, hD⟩
  have HT2 := Lib.hid (Blk.keptC HT1.out hD.2 (by omega))
  have HU2 := Lib.hid (Blk.keptC HU1.out hD.2 (by omega))
  have HB2 := Lib.hid (HB1.out.trans (hD.2.lowB (B := w.heap.size) (by omega) (by omega)))
  have HC2 := Lib.hid hD.1
  have hz2 := hD.2.size
  clear hD
  go_wp2_with fail
  refine (pick_any (w.heap.size + 2) A n c 32 24 _ (HC2.out.below (by repeat' (first | (with_reducible exact Below.refl _ _) | (with_reducible assumption) | (with_reducible refine Below.alloc ?_ ?_ _) | (with_reducible refine Below.drew ?_) | (with_reducible refine Below.setCell ?_ ?_ _) | (with_reducible refine Below.stepB (by assumption) ?_ ?_) | go_size))) (by decide) (by omega) (by decide)).mono ?_
  rintro e w3 ⟨x, rfl, x0, x1, hD⟩
  have hx : x < 24 := by omega
  have HL3 := Lib.hid (Blk.keptC (blk_newC (g := w2.heap.size) (t := 3) (cs := (([0, 1, 50, 99, 100, -1, 101] : List Int).map (Value.int .i64)).toArray) w2 rfl) hD.2 (by omega))
  have HT3 := Lib.hid (Blk.keptC (HT2.out.alloc _) hD.2 (by omega))
  have HU3 := Lib.hid (Blk.keptC (HU2.out.alloc _) hD.2 (by omega))
  have HB3 := Lib.hid ((show Below w.heap.size w _ from Below.alloc HB2.out (by omega) _).trans (hD.2.lowB (B := w.heap.size) (by omega) (by simp; omega)))
  have HC3 := Lib.hid hD.1
  have hz3 := hD.2.size
  (try simp at hz3)
  clear hD
  go_wp2_with fail
  refine (among_any (w.heap.size + 2) A n c 34 w2.heap.size (5 + x / 11).toNat 7 [0, 1, 50, 99, 100, -1, 101] w3 HC3.out (by decide) (by omega) HL3.out (by omega) (by omega) (by simp; omega) (by decide)).mono ?_
  rintro e w4 ⟨y, rfl, hD⟩
  have HT4 := Lib.hid (Blk.keptC HT3.out hD.2 (by omega))
  have HU4 := Lib.hid (Blk.keptC HU3.out hD.2 (by omega))
  have HB4 := Lib.hid (HB3.out.trans (hD.2.lowB (B := w.heap.size) (by omega) (by omega)))
  clear hD
  have hne : w.heap.size + 1 ≠ w.heap.size := by omega
  have hne2 : w.heap.size ≠ w.heap.size + 1 := by omega
  have e0 : ∀ v0 : Value, (w4.setCell ⟨w.heap.size, 0, none⟩ v0).cell? ⟨w.heap.size, 0, none⟩ = some v0 := fun v0 => (HT4.out.set_ 0 v0).cell 0
  have e1 : ∀ v0 v1 : Value, ((w4.setCell ⟨w.heap.size, 0, none⟩ v0).setCell ⟨w.heap.size, 1, none⟩ v1).cell? ⟨w.heap.size, 1, none⟩ = some v1 := fun v0 v1 => ((HT4.out.set_ 0 v0).set_ 1 v1).cell 1
  have e2 : ∀ v0 v1 v2 : Value, (((w4.setCell ⟨w.heap.size, 0, none⟩ v0).setCell ⟨w.heap.size, 1, none⟩ v1).setCell ⟨w.heap.size, 2, none⟩ v2).cell? ⟨w.heap.size, 2, none⟩ = some v2 := fun v0 v1 v2 => (((HT4.out.set_ 0 v0).set_ 1 v1).set_ 2 v2).cell 2
  have e3 : ∀ v0 v1 v2 v3 : Value, ((((w4.setCell ⟨w.heap.size, 0, none⟩ v0).setCell ⟨w.heap.size, 1, none⟩ v1).setCell ⟨w.heap.size, 2, none⟩ v2).setCell ⟨w.heap.size, 3, none⟩ v3).cell? ⟨w.heap.size, 3, none⟩ = some v3 := fun v0 v1 v2 v3 => ((((HT4.out.set_ 0 v0).set_ 1 v1).set_ 2 v2).set_ 3 v3).cell 3
  have e4 : ∀ v0 v1 v2 v3 v4 : Value, (((((w4.setCell ⟨w.heap.size, 0, none⟩ v0).setCell ⟨w.heap.size, 1, none⟩ v1).setCell ⟨w.heap.size, 2, none⟩ v2).setCell ⟨w.heap.size, 3, none⟩ v3).setCell ⟨w.heap.size, 4, none⟩ v4).cell? ⟨w.heap.size, 4, none⟩ = some v4 := fun v0 v1 v2 v3 v4 => (((((HT4.out.set_ 0 v0).set_ 1 v1).set_ 2 v2).set_ 3 v3).set_ 4 v4).cell 4
  have e5 : ∀ v0 v1 v2 v3 v4 v5 : Value, ((((((w4.setCell ⟨w.heap.size, 0, none⟩ v0).setCell ⟨w.heap.size, 1, none⟩ v1).setCell ⟨w.heap.size, 2, none⟩ v2).setCell ⟨w.heap.size, 3, none⟩ v3).setCell ⟨w.heap.size, 4, none⟩ v4).setCell ⟨w.heap.size, 5, none⟩ v5).cell? ⟨w.heap.size, 5, none⟩ = some v5 := fun v0 v1 v2 v3 v4 v5 => ((((((HT4.out.set_ 0 v0).set_ 1 v1).set_ 2 v2).set_ 3 v3).set_ 4 v4).set_ 5 v5).cell 5
  have et0 : w4.cell? ⟨w.heap.size, 0, none⟩ = some (.int .i64 0) := HT4.out.cell 0
  have et1 : w4.cell? ⟨w.heap.size, 1, none⟩ = some (.int .i64 0) := HT4.out.cell 1
  have et2 : w4.cell? ⟨w.heap.size, 2, none⟩ = some (.int .i64 0) := HT4.out.cell 2
  have et3 : w4.cell? ⟨w.heap.size, 3, none⟩ = some (.int .i64 0) := HT4.out.cell 3
  have et4 : w4.cell? ⟨w.heap.size, 4, none⟩ = some (.int .i64 0) := HT4.out.cell 4
  have et5 : w4.cell? ⟨w.heap.size, 5, none⟩ = some (.int .i64 0) := HT4.out.cell 5
  have ef := HT4.out.frozen
  have el := HT4.out.lt
  have HV := Lib.hid ((((((HU4.out.far (p := ⟨w.heap.size, 0, none⟩) hne (.int .i64 s1.id)).far (p := ⟨w.heap.size, 1, none⟩) hne (.int .i64 s1.x)).far (p := ⟨w.heap.size, 2, none⟩) hne (.int .i64 s1.y)).far (p := ⟨w.heap.size, 3, none⟩) hne (.int .i64 s1.mud)).far (p := ⟨w.heap.size, 4, none⟩) hne (.int .i64 s1.sand)).far (p := ⟨w.heap.size, 5, none⟩) hne (.int .i64 s1.rock))
  have d0 : ∀ v0 : Value, (((((((w4.setCell ⟨w.heap.size, 0, none⟩ (.int .i64 s1.id)).setCell ⟨w.heap.size, 1, none⟩ (.int .i64 s1.x)).setCell ⟨w.heap.size, 2, none⟩ (.int .i64 s1.y)).setCell ⟨w.heap.size, 3, none⟩ (.int .i64 s1.mud)).setCell ⟨w.heap.size, 4, none⟩ (.int .i64 s1.sand)).setCell ⟨w.heap.size, 5, none⟩ (.int .i64 s1.rock)).setCell ⟨(w.heap.size + 1), 0, none⟩ v0).cell? ⟨(w.heap.size + 1), 0, none⟩ = some v0 := fun v0 => (HV.out.set_ 0 v0).cell 0
  have d1 : ∀ v0 v1 : Value, ((((((((w4.setCell ⟨w.heap.size, 0, none⟩ (.int .i64 s1.id)).setCell ⟨w.heap.size, 1, none⟩ (.int .i64 s1.x)).setCell ⟨w.heap.size, 2, none⟩ (.int .i64 s1.y)).setCell ⟨w.heap.size, 3, none⟩ (.int .i64 s1.mud)).setCell ⟨w.heap.size, 4, none⟩ (.int .i64 s1.sand)).setCell ⟨w.heap.size, 5, none⟩ (.int .i64 s1.rock)).setCell ⟨(w.heap.size + 1), 0, none⟩ v0).setCell ⟨(w.heap.size + 1), 1, none⟩ v1).cell? ⟨(w.heap.size + 1), 1, none⟩ = some v1 := fun v0 v1 => ((HV.out.set_ 0 v0).set_ 1 v1).cell 1
  have d2 : ∀ v0 v1 v2 : Value, (((((((((w4.setCell ⟨w.heap.size, 0, none⟩ (.int .i64 s1.id)).setCell ⟨w.heap.size, 1, none⟩ (.int .i64 s1.x)).setCell ⟨w.heap.size, 2, none⟩ (.int .i64 s1.y)).setCell ⟨w.heap.size, 3, none⟩ (.int .i64 s1.mud)).setCell ⟨w.heap.size, 4, none⟩ (.int .i64 s1.sand)).setCell ⟨w.heap.size, 5, none⟩ (.int .i64 s1.rock)).setCell ⟨(w.heap.size + 1), 0, none⟩ v0).setCell ⟨(w.heap.size + 1), 1, none⟩ v1).setCell ⟨(w.heap.size + 1), 2, none⟩ v2).cell? ⟨(w.heap.size + 1), 2, none⟩ = some v2 := fun v0 v1 v2 => (((HV.out.set_ 0 v0).set_ 1 v1).set_ 2 v2).cell 2
  have d3 : ∀ v0 v1 v2 v3 : Value, ((((((((((w4.setCell ⟨w.heap.size, 0, none⟩ (.int .i64 s1.id)).setCell ⟨w.heap.size, 1, none⟩ (.int .i64 s1.x)).setCell ⟨w.heap.size, 2, none⟩ (.int .i64 s1.y)).setCell ⟨w.heap.size, 3, none⟩ (.int .i64 s1.mud)).setCell ⟨w.heap.size, 4, none⟩ (.int .i64 s1.sand)).setCell ⟨w.heap.size, 5, none⟩ (.int .i64 s1.rock)).setCell ⟨(w.heap.size + 1), 0, none⟩ v0).setCell ⟨(w.heap.size + 1), 1, none⟩ v1).setCell ⟨(w.heap.size + 1), 2, none⟩ v2).setCell ⟨(w.heap.size + 1), 3, none⟩ v3).cell? ⟨(w.heap.size + 1), 3, none⟩ = some v3 := fun v0 v1 v2 v3 => ((((HV.out.set_ 0 v0).set_ 1 v1).set_ 2 v2).set_ 3 v3).cell 3
  have d4 : ∀ v0 v1 v2 v3 v4 : Value, (((((((((((w4.setCell ⟨w.heap.size, 0, none⟩ (.int .i64 s1.id)).setCell ⟨w.heap.size, 1, none⟩ (.int .i64 s1.x)).setCell ⟨w.heap.size, 2, none⟩ (.int .i64 s1.y)).setCell ⟨w.heap.size, 3, none⟩ (.int .i64 s1.mud)).setCell ⟨w.heap.size, 4, none⟩ (.int .i64 s1.sand)).setCell ⟨w.heap.size, 5, none⟩ (.int .i64 s1.rock)).setCell ⟨(w.heap.size + 1), 0, none⟩ v0).setCell ⟨(w.heap.size + 1), 1, none⟩ v1).setCell ⟨(w.heap.size + 1), 2, none⟩ v2).setCell ⟨(w.heap.size + 1), 3, none⟩ v3).setCell ⟨(w.heap.size + 1), 4, none⟩ v4).cell? ⟨(w.heap.size + 1), 4, none⟩ = some v4 := fun v0 v1 v2 v3 v4 => (((((HV.out.set_ 0 v0).set_ 1 v1).set_ 2 v2).set_ 3 v3).set_ 4 v4).cell 4
  have d5 : ∀ v0 v1 v2 v3 v4 v5 : Value, ((((((((((((w4.setCell ⟨w.heap.size, 0, none⟩ (.int .i64 s1.id)).setCell ⟨w.heap.size, 1, none⟩ (.int .i64 s1.x)).setCell ⟨w.heap.size, 2, none⟩ (.int .i64 s1.y)).setCell ⟨w.heap.size, 3, none⟩ (.int .i64 s1.mud)).setCell ⟨w.heap.size, 4, none⟩ (.int .i64 s1.sand)).setCell ⟨w.heap.size, 5, none⟩ (.int .i64 s1.rock)).setCell ⟨(w.heap.size + 1), 0, none⟩ v0).setCell ⟨(w.heap.size + 1), 1, none⟩ v1).setCell ⟨(w.heap.size + 1), 2, none⟩ v2).setCell ⟨(w.heap.size + 1), 3, none⟩ v3).setCell ⟨(w.heap.size + 1), 4, none⟩ v4).setCell ⟨(w.heap.size + 1), 5, none⟩ v5).cell? ⟨(w.heap.size + 1), 5, none⟩ = some v5 := fun v0 v1 v2 v3 v4 v5 => ((((((HV.out.set_ 0 v0).set_ 1 v1).set_ 2 v2).set_ 3 v3).set_ 4 v4).set_ 5 v5).cell 5
  have dt0 : ((((((w4.setCell ⟨w.heap.size, 0, none⟩ (.int .i64 s1.id)).setCell ⟨w.heap.size, 1, none⟩ (.int .i64 s1.x)).setCell ⟨w.heap.size, 2, none⟩ (.int .i64 s1.y)).setCell ⟨w.heap.size, 3, none⟩ (.int .i64 s1.mud)).setCell ⟨w.heap.size, 4, none⟩ (.int .i64 s1.sand)).setCell ⟨w.heap.size, 5, none⟩ (.int .i64 s1.rock)).cell? ⟨(w.heap.size + 1), 0, none⟩ = some (.int .i64 0) := HV.out.cell 0
  have dt1 : ((((((w4.setCell ⟨w.heap.size, 0, none⟩ (.int .i64 s1.id)).setCell ⟨w.heap.size, 1, none⟩ (.int .i64 s1.x)).setCell ⟨w.heap.size, 2, none⟩ (.int .i64 s1.y)).setCell ⟨w.heap.size, 3, none⟩ (.int .i64 s1.mud)).setCell ⟨w.heap.size, 4, none⟩ (.int .i64 s1.sand)).setCell ⟨w.heap.size, 5, none⟩ (.int .i64 s1.rock)).cell? ⟨(w.heap.size + 1), 1, none⟩ = some (.int .i64 0) := HV.out.cell 1
  have dt2 : ((((((w4.setCell ⟨w.heap.size, 0, none⟩ (.int .i64 s1.id)).setCell ⟨w.heap.size, 1, none⟩ (.int .i64 s1.x)).setCell ⟨w.heap.size, 2, none⟩ (.int .i64 s1.y)).setCell ⟨w.heap.size, 3, none⟩ (.int .i64 s1.mud)).setCell ⟨w.heap.size, 4, none⟩ (.int .i64 s1.sand)).setCell ⟨w.heap.size, 5, none⟩ (.int .i64 s1.rock)).cell? ⟨(w.heap.size + 1), 2, none⟩ = some (.int .i64 0) := HV.out.cell 2
  have dt3 : ((((((w4.setCell ⟨w.heap.size, 0, none⟩ (.int .i64 s1.id)).setCell ⟨w.heap.size, 1, none⟩ (.int .i64 s1.x)).setCell ⟨w.heap.size, 2, none⟩ (.int .i64 s1.y)).setCell ⟨w.heap.size, 3, none⟩ (.int .i64 s1.mud)).setCell ⟨w.heap.size, 4, none⟩ (.int .i64 s1.sand)).setCell ⟨w.heap.size, 5, none⟩ (.int .i64 s1.rock)).cell? ⟨(w.heap.size + 1), 3, none⟩ = some (.int .i64 0) := HV.out.cell 3
  have dt4 : ((((((w4.setCell ⟨w.heap.size, 0, none⟩ (.int .i64 s1.id)).setCell ⟨w.heap.size, 1, none⟩ (.int .i64 s1.x)).setCell ⟨w.heap.size, 2, none⟩ (.int .i64 s1.y)).setCell ⟨w.heap.size, 3, none⟩ (.int .i64 s1.mud)).setCell ⟨w.heap.size, 4, none⟩ (.int .i64 s1.sand)).setCell ⟨w.heap.size, 5, none⟩ (.int .i64 s1.rock)).cell? ⟨(w.heap.size + 1), 4, none⟩ = some (.int .i64 0) := HV.out.cell 4
  have dt5 : ((((((w4.setCell ⟨w.heap.size, 0, none⟩ (.int .i64 s1.id)).setCell ⟨w.heap.size, 1, none⟩ (.int .i64 s1.x)).setCell ⟨w.heap.size, 2, none⟩ (.int .i64 s1.y)).setCell ⟨w.heap.size, 3, none⟩ (.int .i64 s1.mud)).setCell ⟨w.heap.size, 4, none⟩ (.int .i64 s1.sand)).setCell ⟨w.heap.size, 5, none⟩ (.int .i64 s1.rock)).cell? ⟨(w.heap.size + 1), 5, none⟩ = some (.int .i64 0) := HV.out.cell 5
  have df := HV.out.frozen
  have dl := HV.out.lt
  have du : ∀ i, w4.cell? ⟨w.heap.size + 1, i, none⟩ = (#[.int .i64 0, .int .i64 0, .int .i64 0, .int .i64 0, .int .i64 0, .int .i64 0] : Array Value)[i]? := fun i => HU4.out.cell i
  have ul := HU4.out.lt
  have uf := HU4.out.frozen
  go_wp2
  (try simp only [Exit.inBlock, Exit.then])
  refine bodyPost_ret (by simp [results, Try.results56, go_sem, e0, e1, e2, e3, e4, e5, d0, d1, d2, d3, d4, d5]; try rfl) rfl ?_
  have hb := HB4.out
  refine ⟨s1, s2, y, rfl, ?_⟩
  repeat' (first | (with_reducible exact Below.refl _ _) | (with_reducible assumption) | (with_reducible refine Below.alloc ?_ ?_ _) | (with_reducible refine Below.drew ?_) | (with_reducible refine Below.setCell ?_ ?_ _) | (with_reducible refine Below.stepB (by assumption) ?_ ?_) | go_size)
end Go.Proofs.Ytfecepjdjikenaa
