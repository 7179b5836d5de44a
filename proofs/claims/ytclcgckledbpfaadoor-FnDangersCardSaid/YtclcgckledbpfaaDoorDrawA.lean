/- Contracts: the draw of a danger. -/
import Derived.Test.YtclcgckledbpfaaDoorCur
import Derived.Test.YtclcgckledbpfaaDoorRowS
import Derived.Test.YtclcgckledbpfaaDoorDangerA
namespace Go.Proofs.YtclcgckledbpfaaDoor
open Go.RowKit
set_option maxRecDepth 100000 in
set_option maxHeartbeats 20000000 in
theorem danger_any (b : Nat) (A : Option Addr) (n c K : Nat) (id : Int) (w : World) (h : CurS w b A n c K) (hK : K ≤ 999800) (hn : n ≤ 9223372036854775807) :
    Calls Tryd.prog 54 #[.pointer (some ⟨b, 0, none⟩), .int .i64 id] w fun e w' => ∃ s : DG, e = .returned (.agg #[.int .i64 s.id, .int .i64 s.kind, .int .i64 s.x, .int .i64 s.y, .int .i64 s.least, .int .i64 s.quality, .int .i64 s.seen]) ∧ Drew w b A n c (K + 20) w' := by
  have HPK := Lib.hid (fun K' (m : Int) W (hK : K' ≤ 999990) (hC : CurS W b A n c K') (hm : m ≤ 100000) => pick_any b A n c K' m W hC hK hn hm)
  have HAM := Lib.hid (fun K' g m c2 ls W (hK : K' ≤ 999990) (hC : CurS W b A n c K') hB hg hm0 hm hl => among_any b A n c K' g m c2 ls W hC hK hn hB hg hm0 hm hl)
  have HSP := Lib.hid (fun K' W (hK : K' ≤ 999900) (hC : CurS W b A n c K') => spot_any b A n c K' W hC hK hn)
  have HC := Lib.hid h
  have hbl := h.lt
  clear h
  have HK0 := Lib.hid (Kept.refl w (some ⟨b, 0, none⟩) 1)
  go_enter Tryd.func54, Tryd.ntmps54
  go_wp2_with fail
  refine (HPK.out K 3 _ (by omega) (HC.out.below (by repeat' (first | (with_reducible exact Below.refl _ _) | (with_reducible assumption) | (with_reducible refine Below.alloc ?_ ?_ _) | (with_reducible refine Below.drew ?_) | (with_reducible refine Below.setCell ?_ ?_ _) | (with_reducible refine Below.stepB (by assumption) ?_ ?_) | go_size))) (by decide)).mono ?_
  rintro e w1 ⟨kd, rfl, -, -, hD⟩
  have HT1 := Lib.hid (Blk.keptC (blk_newC (g := w.heap.size) (t := 30) (cs := #[.int .i64 0, .int .i64 0, .int .i64 0, .int .i64 0, .int .i64 0, .int .i64 0, .int .i64 0]) w rfl) hD.2 (by omega))
  have HK1 := Lib.hid ((HK0.out.laterB (show Below w.heap.size w _ from by repeat' (first | (with_reducible exact Below.refl _ _) | (with_reducible assumption) | (with_reducible refine Below.alloc ?_ ?_ _) | (with_reducible refine Below.drew ?_) | (with_reducible refine Below.setCell ?_ ?_ _) | (with_reducible refine Below.stepB (by assumption) ?_ ?_) | go_size))).trans1 hD.2)
  have HC1 := Lib.hid hD.1
  have hz1 := hD.2.size
  (try simp at hz1)
  clear hD
  go_wp2_with fail
  refine (HSP.out (K + 2) _ (by omega) HC1.out).mono ?_
  rintro e w2 ⟨x, y, rfl, hD⟩
  have HT2 := Lib.hid (Blk.keptC HT1.out hD.2 (by omega))
  have HK2 := Lib.hid ((HK1.out.laterB (show Below w1.heap.size w1 _ from by repeat' (first | (with_reducible exact Below.refl _ _) | (with_reducible assumption) | (with_reducible refine Below.alloc ?_ ?_ _) | (with_reducible refine Below.drew ?_) | (with_reducible refine Below.setCell ?_ ?_ _) | (with_reducible refine Below.stepB (by assumption) ?_ ?_) | go_size))).trans1 hD.2)
  have HC2 := Lib.hid hD.1
  have hz2 := hD.2.size
  (try simp at hz2)
  clear hD
  go_wp2_with fail
  refine (HAM.out (K + 10) w2.heap.size 7 7 [-1000, -20, 0, 250, 250, 700, 20000] _ (by omega) (HC2.out.below (by repeat' (first | (with_reducible exact Below.refl _ _) | (with_reducible assumption) | (with_reducible refine Below.alloc ?_ ?_ _) | (with_reducible refine Below.drew ?_) | (with_reducible refine Below.setCell ?_ ?_ _) | (with_reducible refine Below.stepB (by assumption) ?_ ?_) | go_size))) ?_ (by omega) (by decide) (by decide) (by decide)).mono ?_
  · exact blk_newC _ (by simp)
  rintro e w3 ⟨le, rfl, hD⟩
  have HT3 := Lib.hid (Blk.keptC (HT2.out.alloc _) hD.2 (by omega))
  have HK3 := Lib.hid ((HK2.out.laterB (show Below w2.heap.size w2 _ from by repeat' (first | (with_reducible exact Below.refl _ _) | (with_reducible assumption) | (with_reducible refine Below.alloc ?_ ?_ _) | (with_reducible refine Below.drew ?_) | (with_reducible refine Below.setCell ?_ ?_ _) | (with_reducible refine Below.stepB (by assumption) ?_ ?_) | go_size))).trans1 hD.2)
  have HC3 := Lib.hid hD.1
  have hz3 := hD.2.size
  (try simp at hz3)
  clear hD
  go_wp2_with fail
  refine (HPK.out (K + 12) 3 _ (by omega) HC3.out (by decide)).mono ?_
  rintro e w4 ⟨qu, rfl, -, -, hD⟩
  have HT4 := Lib.hid (Blk.keptC HT3.out hD.2 (by omega))
  have HK4 := Lib.hid ((HK3.out.laterB (show Below w3.heap.size w3 _ from by repeat' (first | (with_reducible exact Below.refl _ _) | (with_reducible assumption) | (with_reducible refine Below.alloc ?_ ?_ _) | (with_reducible refine Below.drew ?_) | (with_reducible refine Below.setCell ?_ ?_ _) | (with_reducible refine Below.stepB (by assumption) ?_ ?_) | go_size))).trans1 hD.2)
  have HC4 := Lib.hid hD.1
  have hz4 := hD.2.size
  (try simp at hz4)
  clear hD
  go_wp2_with fail
  refine (HAM.out (K + 14) w4.heap.size 5 5 [0, 100, 100, 5000, 10000] _ (by omega) (HC4.out.below (by repeat' (first | (with_reducible exact Below.refl _ _) | (with_reducible assumption) | (with_reducible refine Below.alloc ?_ ?_ _) | (with_reducible refine Below.drew ?_) | (with_reducible refine Below.setCell ?_ ?_ _) | (with_reducible refine Below.stepB (by assumption) ?_ ?_) | go_size))) ?_ (by omega) (by decide) (by decide) (by decide)).mono ?_
  · exact blk_newC _ (by simp)
  rintro e w5 ⟨se, rfl, hD⟩
  have HT5 := Lib.hid (Blk.keptC (HT4.out.alloc _) hD.2 (by omega))
  have HK5 := Lib.hid ((HK4.out.laterB (show Below w4.heap.size w4 _ from by repeat' (first | (with_reducible exact Below.refl _ _) | (with_reducible assumption) | (with_reducible refine Below.alloc ?_ ?_ _) | (with_reducible refine Below.drew ?_) | (with_reducible refine Below.setCell ?_ ?_ _) | (with_reducible refine Below.stepB (by assumption) ?_ ?_) | go_size))).trans1 hD.2)
  have HC5 := Lib.hid hD.1
  have hz5 := hD.2.size
  (try simp at hz5)
  clear hD
  have HP5 := Lib.hid (blk_newC (g := w5.heap.size) (t := 30) (cs := #[.int .i64 id, .int .i64 kd, .int .i64 x, .int .i64 y, .int .i64 le, .int .i64 qu, .int .i64 se]) w5 rfl)
  have hne : w.heap.size ≠ w5.heap.size := by omega
  go_wp2_with fail
  refine (HPK.out (K + 16) 80 _ (by omega) (HC5.out.below (by repeat' (first | (with_reducible exact Below.refl _ _) | (with_reducible assumption) | (with_reducible refine Below.alloc ?_ ?_ _) | (with_reducible refine Below.drew ?_) | (with_reducible refine Below.setCell ?_ ?_ _) | (with_reducible refine Below.stepB (by assumption) ?_ ?_) | go_size))) (by decide)).mono ?_
  rintro e w6 ⟨u, rfl, u0, u1, hD⟩
  have HT6 := Lib.hid (Blk.keptC (HT5.out.alloc _) hD.2 (by omega))
  have HP6 := Lib.hid (Blk.keptC HP5.out hD.2 (by omega))
  have HK6 := Lib.hid ((HK5.out.laterB (show Below w5.heap.size w5 _ from by repeat' (first | (with_reducible exact Below.refl _ _) | (with_reducible assumption) | (with_reducible refine Below.alloc ?_ ?_ _) | (with_reducible refine Below.drew ?_) | (with_reducible refine Below.setCell ?_ ?_ _) | (with_reducible refine Below.stepB (by assumption) ?_ ?_) | go_size))).trans1 hD.2)
  have HC6 := Lib.hid hD.1
  have hz6 := hD.2.size
  (try simp at hz6)
  clear hD
  have p0 : w6.cell? ⟨w5.heap.size, 0, none⟩ = some (.int .i64 id) := HP6.out.cell 0
  have t0 : w6.cell? ⟨w.heap.size, 0, none⟩ = some (.int .i64 0) := HT6.out.cell 0
  have p1 : w6.cell? ⟨w5.heap.size, 1, none⟩ = some (.int .i64 kd) := HP6.out.cell 1
  have t1 : w6.cell? ⟨w.heap.size, 1, none⟩ = some (.int .i64 0) := HT6.out.cell 1
  have p2 : w6.cell? ⟨w5.heap.size, 2, none⟩ = some (.int .i64 x) := HP6.out.cell 2
  have t2 : w6.cell? ⟨w.heap.size, 2, none⟩ = some (.int .i64 0) := HT6.out.cell 2
  have p3 : w6.cell? ⟨w5.heap.size, 3, none⟩ = some (.int .i64 y) := HP6.out.cell 3
  have t3 : w6.cell? ⟨w.heap.size, 3, none⟩ = some (.int .i64 0) := HT6.out.cell 3
  have p4 : w6.cell? ⟨w5.heap.size, 4, none⟩ = some (.int .i64 le) := HP6.out.cell 4
  have t4 : w6.cell? ⟨w.heap.size, 4, none⟩ = some (.int .i64 0) := HT6.out.cell 4
  have p5 : w6.cell? ⟨w5.heap.size, 5, none⟩ = some (.int .i64 qu) := HP6.out.cell 5
  have t5 : w6.cell? ⟨w.heap.size, 5, none⟩ = some (.int .i64 0) := HT6.out.cell 5
  have p6 : w6.cell? ⟨w5.heap.size, 6, none⟩ = some (.int .i64 se) := HP6.out.cell 6
  have t6 : w6.cell? ⟨w.heap.size, 6, none⟩ = some (.int .i64 0) := HT6.out.cell 6
  have tf := HT6.out.frozen
  have tl := HT6.out.lt

  by_cases h0 : u = 0
  · subst h0
    skip
    go_wp2_with fail
    refine (HAM.out (K + 18) w6.heap.size 3 3 [0, 999, 1000] _ (by omega) (HC6.out.below (by repeat' (first | (with_reducible exact Below.refl _ _) | (with_reducible assumption) | (with_reducible refine Below.alloc ?_ ?_ _) | (with_reducible refine Below.drew ?_) | (with_reducible refine Below.setCell ?_ ?_ _) | (with_reducible refine Below.stepB (by assumption) ?_ ?_) | go_size))) ?_ (by omega) (by decide) (by decide) (by decide)).mono ?_
    · exact blk_newC _ (by simp)
    rintro e w7 ⟨z, rfl, hD⟩
    have HT7 := Lib.hid (Blk.keptC (HT6.out.alloc _) hD.2 (by omega))
    have HP7 := Lib.hid (Blk.keptC (HP6.out.alloc _) hD.2 (by omega))
    have HK7 := Lib.hid ((HK6.out.laterB (show Below w6.heap.size w6 _ from by repeat' (first | (with_reducible exact Below.refl _ _) | (with_reducible assumption) | (with_reducible refine Below.alloc ?_ ?_ _) | (with_reducible refine Below.drew ?_) | (with_reducible refine Below.setCell ?_ ?_ _) | (with_reducible refine Below.stepB (by assumption) ?_ ?_) | go_size))).trans1 hD.2)
    have HC7 := Lib.hid hD.1
    have hz7 := hD.2.size
    (try simp at hz7)
    clear hD
    clear p0 p1 p2 p3 p4 p5 p6 t0 t1 t2 t3 t4 t5 t6 tf tl
    have p0 : w7.cell? ⟨w5.heap.size, 0, none⟩ = some (.int .i64 id) := HP7.out.cell 0
    have t0 : w7.cell? ⟨w.heap.size, 0, none⟩ = some (.int .i64 0) := HT7.out.cell 0
    have p1 : w7.cell? ⟨w5.heap.size, 1, none⟩ = some (.int .i64 kd) := HP7.out.cell 1
    have t1 : w7.cell? ⟨w.heap.size, 1, none⟩ = some (.int .i64 0) := HT7.out.cell 1
    have p2 : w7.cell? ⟨w5.heap.size, 2, none⟩ = some (.int .i64 x) := HP7.out.cell 2
    have t2 : w7.cell? ⟨w.heap.size, 2, none⟩ = some (.int .i64 0) := HT7.out.cell 2
    have p3 : w7.cell? ⟨w5.heap.size, 3, none⟩ = some (.int .i64 y) := HP7.out.cell 3
    have t3 : w7.cell? ⟨w.heap.size, 3, none⟩ = some (.int .i64 0) := HT7.out.cell 3
    have p4 : w7.cell? ⟨w5.heap.size, 4, none⟩ = some (.int .i64 le) := HP7.out.cell 4
    have t4 : w7.cell? ⟨w.heap.size, 4, none⟩ = some (.int .i64 0) := HT7.out.cell 4
    have p5 : w7.cell? ⟨w5.heap.size, 5, none⟩ = some (.int .i64 qu) := HP7.out.cell 5
    have t5 : w7.cell? ⟨w.heap.size, 5, none⟩ = some (.int .i64 0) := HT7.out.cell 5
    have p6 : w7.cell? ⟨w5.heap.size, 6, none⟩ = some (.int .i64 se) := HP7.out.cell 6
    have t6 : w7.cell? ⟨w.heap.size, 6, none⟩ = some (.int .i64 0) := HT7.out.cell 6
    have pf := HP7.out.frozen
    have pl := HP7.out.lt
    have tf := HT7.out.frozen
    have tl := HT7.out.lt
    have pz : ∀ v, (w7.setCell ⟨w5.heap.size, 0, none⟩ v).cell? ⟨w5.heap.size, 0, none⟩ = some v := fun v => (HP7.out.set_ 0 v).cell 0
    have HTZ := Lib.hid (HT7.out.far (p := ⟨w5.heap.size, 0, none⟩) hne (.int .i64 z))
    have e0 : ∀ v0 : Value, ((w7.setCell ⟨w5.heap.size, 0, none⟩ (.int .i64 z)).setCell ⟨w.heap.size, 0, none⟩ v0).cell? ⟨w.heap.size, 0, none⟩ = some v0 := fun v0 => (HTZ.out.set_ 0 v0).cell 0
    have e1 : ∀ v0 v1 : Value, (((w7.setCell ⟨w5.heap.size, 0, none⟩ (.int .i64 z)).setCell ⟨w.heap.size, 0, none⟩ v0).setCell ⟨w.heap.size, 1, none⟩ v1).cell? ⟨w.heap.size, 1, none⟩ = some v1 := fun v0 v1 => ((HTZ.out.set_ 0 v0).set_ 1 v1).cell 1
    have e2 : ∀ v0 v1 v2 : Value, ((((w7.setCell ⟨w5.heap.size, 0, none⟩ (.int .i64 z)).setCell ⟨w.heap.size, 0, none⟩ v0).setCell ⟨w.heap.size, 1, none⟩ v1).setCell ⟨w.heap.size, 2, none⟩ v2).cell? ⟨w.heap.size, 2, none⟩ = some v2 := fun v0 v1 v2 => (((HTZ.out.set_ 0 v0).set_ 1 v1).set_ 2 v2).cell 2
    have e3 : ∀ v0 v1 v2 v3 : Value, (((((w7.setCell ⟨w5.heap.size, 0, none⟩ (.int .i64 z)).setCell ⟨w.heap.size, 0, none⟩ v0).setCell ⟨w.heap.size, 1, none⟩ v1).setCell ⟨w.heap.size, 2, none⟩ v2).setCell ⟨w.heap.size, 3, none⟩ v3).cell? ⟨w.heap.size, 3, none⟩ = some v3 := fun v0 v1 v2 v3 => ((((HTZ.out.set_ 0 v0).set_ 1 v1).set_ 2 v2).set_ 3 v3).cell 3
    have e4 : ∀ v0 v1 v2 v3 v4 : Value, ((((((w7.setCell ⟨w5.heap.size, 0, none⟩ (.int .i64 z)).setCell ⟨w.heap.size, 0, none⟩ v0).setCell ⟨w.heap.size, 1, none⟩ v1).setCell ⟨w.heap.size, 2, none⟩ v2).setCell ⟨w.heap.size, 3, none⟩ v3).setCell ⟨w.heap.size, 4, none⟩ v4).cell? ⟨w.heap.size, 4, none⟩ = some v4 := fun v0 v1 v2 v3 v4 => (((((HTZ.out.set_ 0 v0).set_ 1 v1).set_ 2 v2).set_ 3 v3).set_ 4 v4).cell 4
    have e5 : ∀ v0 v1 v2 v3 v4 v5 : Value, (((((((w7.setCell ⟨w5.heap.size, 0, none⟩ (.int .i64 z)).setCell ⟨w.heap.size, 0, none⟩ v0).setCell ⟨w.heap.size, 1, none⟩ v1).setCell ⟨w.heap.size, 2, none⟩ v2).setCell ⟨w.heap.size, 3, none⟩ v3).setCell ⟨w.heap.size, 4, none⟩ v4).setCell ⟨w.heap.size, 5, none⟩ v5).cell? ⟨w.heap.size, 5, none⟩ = some v5 := fun v0 v1 v2 v3 v4 v5 => ((((((HTZ.out.set_ 0 v0).set_ 1 v1).set_ 2 v2).set_ 3 v3).set_ 4 v4).set_ 5 v5).cell 5
    have e6 : ∀ v0 v1 v2 v3 v4 v5 v6 : Value, ((((((((w7.setCell ⟨w5.heap.size, 0, none⟩ (.int .i64 z)).setCell ⟨w.heap.size, 0, none⟩ v0).setCell ⟨w.heap.size, 1, none⟩ v1).setCell ⟨w.heap.size, 2, none⟩ v2).setCell ⟨w.heap.size, 3, none⟩ v3).setCell ⟨w.heap.size, 4, none⟩ v4).setCell ⟨w.heap.size, 5, none⟩ v5).setCell ⟨w.heap.size, 6, none⟩ v6).cell? ⟨w.heap.size, 6, none⟩ = some v6 := fun v0 v1 v2 v3 v4 v5 v6 => (((((((HTZ.out.set_ 0 v0).set_ 1 v1).set_ 2 v2).set_ 3 v3).set_ 4 v4).set_ 5 v5).set_ 6 v6).cell 6
    go_wp2
    (try simp only [Exit.inBlock, Exit.then])
    refine bodyPost_ret (by simp [results, Tryd.results54, go_sem, e0, e1, e2, e3, e4, e5, e6]; try rfl) rfl ?_
    refine ⟨⟨_, _, _, _, _, _, _⟩, rfl, (HC7.out.belowB (B := w.heap.size) ?_ hbl).more (by omega), HK7.out.onB ?_⟩ <;> repeat' (first | (with_reducible exact Below.refl _ _) | (with_reducible assumption) | (with_reducible refine Below.alloc ?_ ?_ _) | (with_reducible refine Below.drew ?_) | (with_reducible refine Below.setCell ?_ ?_ _) | (with_reducible refine Below.stepB (by assumption) ?_ ?_) | go_size)
  have hu0 : (u == 0) = false := by simpa using h0
  by_cases h1 : u = 1
  · subst h1
    skip
    go_wp2_with fail
    refine (HAM.out (K + 18) w6.heap.size 2 2 [-1, 3] _ (by omega) (HC6.out.below (by repeat' (first | (with_reducible exact Below.refl _ _) | (with_reducible assumption) | (with_reducible refine Below.alloc ?_ ?_ _) | (with_reducible refine Below.drew ?_) | (with_reducible refine Below.setCell ?_ ?_ _) | (with_reducible refine Below.stepB (by assumption) ?_ ?_) | go_size))) ?_ (by omega) (by decide) (by decide) (by decide)).mono ?_
    · exact blk_newC _ (by simp)
    rintro e w7 ⟨z, rfl, hD⟩
    have HT7 := Lib.hid (Blk.keptC (HT6.out.alloc _) hD.2 (by omega))
    have HP7 := Lib.hid (Blk.keptC (HP6.out.alloc _) hD.2 (by omega))
    have HK7 := Lib.hid ((HK6.out.laterB (show Below w6.heap.size w6 _ from by repeat' (first | (with_reducible exact Below.refl _ _) | (with_reducible assumption) | (with_reducible refine Below.alloc ?_ ?_ _) | (with_reducible refine Below.drew ?_) | (with_reducible refine Below.setCell ?_ ?_ _) | (with_reducible refine Below.stepB (by assumption) ?_ ?_) | go_size))).trans1 hD.2)
    have HC7 := Lib.hid hD.1
    have hz7 := hD.2.size
    (try simp at hz7)
    clear hD
    clear p0 p1 p2 p3 p4 p5 p6 t0 t1 t2 t3 t4 t5 t6 tf tl
    have p0 : w7.cell? ⟨w5.heap.size, 0, none⟩ = some (.int .i64 id) := HP7.out.cell 0
    have t0 : w7.cell? ⟨w.heap.size, 0, none⟩ = some (.int .i64 0) := HT7.out.cell 0
    have p1 : w7.cell? ⟨w5.heap.size, 1, none⟩ = some (.int .i64 kd) := HP7.out.cell 1
    have t1 : w7.cell? ⟨w.heap.size, 1, none⟩ = some (.int .i64 0) := HT7.out.cell 1
    have p2 : w7.cell? ⟨w5.heap.size, 2, none⟩ = some (.int .i64 x) := HP7.out.cell 2
    have t2 : w7.cell? ⟨w.heap.size, 2, none⟩ = some (.int .i64 0) := HT7.out.cell 2
    have p3 : w7.cell? ⟨w5.heap.size, 3, none⟩ = some (.int .i64 y) := HP7.out.cell 3
    have t3 : w7.cell? ⟨w.heap.size, 3, none⟩ = some (.int .i64 0) := HT7.out.cell 3
    have p4 : w7.cell? ⟨w5.heap.size, 4, none⟩ = some (.int .i64 le) := HP7.out.cell 4
    have t4 : w7.cell? ⟨w.heap.size, 4, none⟩ = some (.int .i64 0) := HT7.out.cell 4
    have p5 : w7.cell? ⟨w5.heap.size, 5, none⟩ = some (.int .i64 qu) := HP7.out.cell 5
    have t5 : w7.cell? ⟨w.heap.size, 5, none⟩ = some (.int .i64 0) := HT7.out.cell 5
    have p6 : w7.cell? ⟨w5.heap.size, 6, none⟩ = some (.int .i64 se) := HP7.out.cell 6
    have t6 : w7.cell? ⟨w.heap.size, 6, none⟩ = some (.int .i64 0) := HT7.out.cell 6
    have pf := HP7.out.frozen
    have pl := HP7.out.lt
    have tf := HT7.out.frozen
    have tl := HT7.out.lt
    have pz : ∀ v, (w7.setCell ⟨w5.heap.size, 1, none⟩ v).cell? ⟨w5.heap.size, 1, none⟩ = some v := fun v => (HP7.out.set_ 1 v).cell 1
    have HTZ := Lib.hid (HT7.out.far (p := ⟨w5.heap.size, 1, none⟩) hne (.int .i64 z))
    have e0 : ∀ v0 : Value, ((w7.setCell ⟨w5.heap.size, 1, none⟩ (.int .i64 z)).setCell ⟨w.heap.size, 0, none⟩ v0).cell? ⟨w.heap.size, 0, none⟩ = some v0 := fun v0 => (HTZ.out.set_ 0 v0).cell 0
    have e1 : ∀ v0 v1 : Value, (((w7.setCell ⟨w5.heap.size, 1, none⟩ (.int .i64 z)).setCell ⟨w.heap.size, 0, none⟩ v0).setCell ⟨w.heap.size, 1, none⟩ v1).cell? ⟨w.heap.size, 1, none⟩ = some v1 := fun v0 v1 => ((HTZ.out.set_ 0 v0).set_ 1 v1).cell 1
    have e2 : ∀ v0 v1 v2 : Value, ((((w7.setCell ⟨w5.heap.size, 1, none⟩ (.int .i64 z)).setCell ⟨w.heap.size, 0, none⟩ v0).setCell ⟨w.heap.size, 1, none⟩ v1).setCell ⟨w.heap.size, 2, none⟩ v2).cell? ⟨w.heap.size, 2, none⟩ = some v2 := fun v0 v1 v2 => (((HTZ.out.set_ 0 v0).set_ 1 v1).set_ 2 v2).cell 2
    have e3 : ∀ v0 v1 v2 v3 : Value, (((((w7.setCell ⟨w5.heap.size, 1, none⟩ (.int .i64 z)).setCell ⟨w.heap.size, 0, none⟩ v0).setCell ⟨w.heap.size, 1, none⟩ v1).setCell ⟨w.heap.size, 2, none⟩ v2).setCell ⟨w.heap.size, 3, none⟩ v3).cell? ⟨w.heap.size, 3, none⟩ = some v3 := fun v0 v1 v2 v3 => ((((HTZ.out.set_ 0 v0).set_ 1 v1).set_ 2 v2).set_ 3 v3).cell 3
    have e4 : ∀ v0 v1 v2 v3 v4 : Value, ((((((w7.setCell ⟨w5.heap.size, 1, none⟩ (.int .i64 z)).setCell ⟨w.heap.size, 0, none⟩ v0).setCell ⟨w.heap.size, 1, none⟩ v1).setCell ⟨w.heap.size, 2, none⟩ v2).setCell ⟨w.heap.size, 3, none⟩ v3).setCell ⟨w.heap.size, 4, none⟩ v4).cell? ⟨w.heap.size, 4, none⟩ = some v4 := fun v0 v1 v2 v3 v4 => (((((HTZ.out.set_ 0 v0).set_ 1 v1).set_ 2 v2).set_ 3 v3).set_ 4 v4).cell 4
    have e5 : ∀ v0 v1 v2 v3 v4 v5 : Value, (((((((w7.setCell ⟨w5.heap.size, 1, none⟩ (.int .i64 z)).setCell ⟨w.heap.size, 0, none⟩ v0).setCell ⟨w.heap.size, 1, none⟩ v1).setCell ⟨w.heap.size, 2, none⟩ v2).setCell ⟨w.heap.size, 3, none⟩ v3).setCell ⟨w.heap.size, 4, none⟩ v4).setCell ⟨w.heap.size, 5, none⟩ v5).cell? ⟨w.heap.size, 5, none⟩ = some v5 := fun v0 v1 v2 v3 v4 v5 => ((((((HTZ.out.set_ 0 v0).set_ 1 v1).set_ 2 v2).set_ 3 v3).set_ 4 v4).set_ 5 v5).cell 5
    have e6 : ∀ v0 v1 v2 v3 v4 v5 v6 : Value, ((((((((w7.setCell ⟨w5.heap.size, 1, none⟩ (.int .i64 z)).setCell ⟨w.heap.size, 0, none⟩ v0).setCell ⟨w.heap.size, 1, none⟩ v1).setCell ⟨w.heap.size, 2, none⟩ v2).setCell ⟨w.heap.size, 3, none⟩ v3).setCell ⟨w.heap.size, 4, none⟩ v4).setCell ⟨w.heap.size, 5, none⟩ v5).setCell ⟨w.heap.size, 6, none⟩ v6).cell? ⟨w.heap.size, 6, none⟩ = some v6 := fun v0 v1 v2 v3 v4 v5 v6 => (((((((HTZ.out.set_ 0 v0).set_ 1 v1).set_ 2 v2).set_ 3 v3).set_ 4 v4).set_ 5 v5).set_ 6 v6).cell 6
    go_wp2
    (try simp only [Exit.inBlock, Exit.then])
    refine bodyPost_ret (by simp [results, Tryd.results54, go_sem, e0, e1, e2, e3, e4, e5, e6]; try rfl) rfl ?_
    refine ⟨⟨_, _, _, _, _, _, _⟩, rfl, (HC7.out.belowB (B := w.heap.size) ?_ hbl).more (by omega), HK7.out.onB ?_⟩ <;> repeat' (first | (with_reducible exact Below.refl _ _) | (with_reducible assumption) | (with_reducible refine Below.alloc ?_ ?_ _) | (with_reducible refine Below.drew ?_) | (with_reducible refine Below.setCell ?_ ?_ _) | (with_reducible refine Below.stepB (by assumption) ?_ ?_) | go_size)
  have hu1 : (u == 1) = false := by simpa using h1
  by_cases h2 : u = 2
  · subst h2
    skip
    go_wp2_with fail
    refine (HAM.out (K + 18) w6.heap.size 2 2 [-1001, 20001] _ (by omega) (HC6.out.below (by repeat' (first | (with_reducible exact Below.refl _ _) | (with_reducible assumption) | (with_reducible refine Below.alloc ?_ ?_ _) | (with_reducible refine Below.drew ?_) | (with_reducible refine Below.setCell ?_ ?_ _) | (with_reducible refine Below.stepB (by assumption) ?_ ?_) | go_size))) ?_ (by omega) (by decide) (by decide) (by decide)).mono ?_
    · exact blk_newC _ (by simp)
    rintro e w7 ⟨z, rfl, hD⟩
    have HT7 := Lib.hid (Blk.keptC (HT6.out.alloc _) hD.2 (by omega))
    have HP7 := Lib.hid (Blk.keptC (HP6.out.alloc _) hD.2 (by omega))
    have HK7 := Lib.hid ((HK6.out.laterB (show Below w6.heap.size w6 _ from by repeat' (first | (with_reducible exact Below.refl _ _) | (with_reducible assumption) | (with_reducible refine Below.alloc ?_ ?_ _) | (with_reducible refine Below.drew ?_) | (with_reducible refine Below.setCell ?_ ?_ _) | (with_reducible refine Below.stepB (by assumption) ?_ ?_) | go_size))).trans1 hD.2)
    have HC7 := Lib.hid hD.1
    have hz7 := hD.2.size
    (try simp at hz7)
    clear hD
    clear p0 p1 p2 p3 p4 p5 p6 t0 t1 t2 t3 t4 t5 t6 tf tl
    have p0 : w7.cell? ⟨w5.heap.size, 0, none⟩ = some (.int .i64 id) := HP7.out.cell 0
    have t0 : w7.cell? ⟨w.heap.size, 0, none⟩ = some (.int .i64 0) := HT7.out.cell 0
    have p1 : w7.cell? ⟨w5.heap.size, 1, none⟩ = some (.int .i64 kd) := HP7.out.cell 1
    have t1 : w7.cell? ⟨w.heap.size, 1, none⟩ = some (.int .i64 0) := HT7.out.cell 1
    have p2 : w7.cell? ⟨w5.heap.size, 2, none⟩ = some (.int .i64 x) := HP7.out.cell 2
    have t2 : w7.cell? ⟨w.heap.size, 2, none⟩ = some (.int .i64 0) := HT7.out.cell 2
    have p3 : w7.cell? ⟨w5.heap.size, 3, none⟩ = some (.int .i64 y) := HP7.out.cell 3
    have t3 : w7.cell? ⟨w.heap.size, 3, none⟩ = some (.int .i64 0) := HT7.out.cell 3
    have p4 : w7.cell? ⟨w5.heap.size, 4, none⟩ = some (.int .i64 le) := HP7.out.cell 4
    have t4 : w7.cell? ⟨w.heap.size, 4, none⟩ = some (.int .i64 0) := HT7.out.cell 4
    have p5 : w7.cell? ⟨w5.heap.size, 5, none⟩ = some (.int .i64 qu) := HP7.out.cell 5
    have t5 : w7.cell? ⟨w.heap.size, 5, none⟩ = some (.int .i64 0) := HT7.out.cell 5
    have p6 : w7.cell? ⟨w5.heap.size, 6, none⟩ = some (.int .i64 se) := HP7.out.cell 6
    have t6 : w7.cell? ⟨w.heap.size, 6, none⟩ = some (.int .i64 0) := HT7.out.cell 6
    have pf := HP7.out.frozen
    have pl := HP7.out.lt
    have tf := HT7.out.frozen
    have tl := HT7.out.lt
    have pz : ∀ v, (w7.setCell ⟨w5.heap.size, 4, none⟩ v).cell? ⟨w5.heap.size, 4, none⟩ = some v := fun v => (HP7.out.set_ 4 v).cell 4
    have HTZ := Lib.hid (HT7.out.far (p := ⟨w5.heap.size, 4, none⟩) hne (.int .i64 z))
    have e0 : ∀ v0 : Value, ((w7.setCell ⟨w5.heap.size, 4, none⟩ (.int .i64 z)).setCell ⟨w.heap.size, 0, none⟩ v0).cell? ⟨w.heap.size, 0, none⟩ = some v0 := fun v0 => (HTZ.out.set_ 0 v0).cell 0
    have e1 : ∀ v0 v1 : Value, (((w7.setCell ⟨w5.heap.size, 4, none⟩ (.int .i64 z)).setCell ⟨w.heap.size, 0, none⟩ v0).setCell ⟨w.heap.size, 1, none⟩ v1).cell? ⟨w.heap.size, 1, none⟩ = some v1 := fun v0 v1 => ((HTZ.out.set_ 0 v0).set_ 1 v1).cell 1
    have e2 : ∀ v0 v1 v2 : Value, ((((w7.setCell ⟨w5.heap.size, 4, none⟩ (.int .i64 z)).setCell ⟨w.heap.size, 0, none⟩ v0).setCell ⟨w.heap.size, 1, none⟩ v1).setCell ⟨w.heap.size, 2, none⟩ v2).cell? ⟨w.heap.size, 2, none⟩ = some v2 := fun v0 v1 v2 => (((HTZ.out.set_ 0 v0).set_ 1 v1).set_ 2 v2).cell 2
    have e3 : ∀ v0 v1 v2 v3 : Value, (((((w7.setCell ⟨w5.heap.size, 4, none⟩ (.int .i64 z)).setCell ⟨w.heap.size, 0, none⟩ v0).setCell ⟨w.heap.size, 1, none⟩ v1).setCell ⟨w.heap.size, 2, none⟩ v2).setCell ⟨w.heap.size, 3, none⟩ v3).cell? ⟨w.heap.size, 3, none⟩ = some v3 := fun v0 v1 v2 v3 => ((((HTZ.out.set_ 0 v0).set_ 1 v1).set_ 2 v2).set_ 3 v3).cell 3
    have e4 : ∀ v0 v1 v2 v3 v4 : Value, ((((((w7.setCell ⟨w5.heap.size, 4, none⟩ (.int .i64 z)).setCell ⟨w.heap.size, 0, none⟩ v0).setCell ⟨w.heap.size, 1, none⟩ v1).setCell ⟨w.heap.size, 2, none⟩ v2).setCell ⟨w.heap.size, 3, none⟩ v3).setCell ⟨w.heap.size, 4, none⟩ v4).cell? ⟨w.heap.size, 4, none⟩ = some v4 := fun v0 v1 v2 v3 v4 => (((((HTZ.out.set_ 0 v0).set_ 1 v1).set_ 2 v2).set_ 3 v3).set_ 4 v4).cell 4
    have e5 : ∀ v0 v1 v2 v3 v4 v5 : Value, (((((((w7.setCell ⟨w5.heap.size, 4, none⟩ (.int .i64 z)).setCell ⟨w.heap.size, 0, none⟩ v0).setCell ⟨w.heap.size, 1, none⟩ v1).setCell ⟨w.heap.size, 2, none⟩ v2).setCell ⟨w.heap.size, 3, none⟩ v3).setCell ⟨w.heap.size, 4, none⟩ v4).setCell ⟨w.heap.size, 5, none⟩ v5).cell? ⟨w.heap.size, 5, none⟩ = some v5 := fun v0 v1 v2 v3 v4 v5 => ((((((HTZ.out.set_ 0 v0).set_ 1 v1).set_ 2 v2).set_ 3 v3).set_ 4 v4).set_ 5 v5).cell 5
    have e6 : ∀ v0 v1 v2 v3 v4 v5 v6 : Value, ((((((((w7.setCell ⟨w5.heap.size, 4, none⟩ (.int .i64 z)).setCell ⟨w.heap.size, 0, none⟩ v0).setCell ⟨w.heap.size, 1, none⟩ v1).setCell ⟨w.heap.size, 2, none⟩ v2).setCell ⟨w.heap.size, 3, none⟩ v3).setCell ⟨w.heap.size, 4, none⟩ v4).setCell ⟨w.heap.size, 5, none⟩ v5).setCell ⟨w.heap.size, 6, none⟩ v6).cell? ⟨w.heap.size, 6, none⟩ = some v6 := fun v0 v1 v2 v3 v4 v5 v6 => (((((((HTZ.out.set_ 0 v0).set_ 1 v1).set_ 2 v2).set_ 3 v3).set_ 4 v4).set_ 5 v5).set_ 6 v6).cell 6
    go_wp2
    (try simp only [Exit.inBlock, Exit.then])
    refine bodyPost_ret (by simp [results, Tryd.results54, go_sem, e0, e1, e2, e3, e4, e5, e6]; try rfl) rfl ?_
    refine ⟨⟨_, _, _, _, _, _, _⟩, rfl, (HC7.out.belowB (B := w.heap.size) ?_ hbl).more (by omega), HK7.out.onB ?_⟩ <;> repeat' (first | (with_reducible exact Below.refl _ _) | (with_reducible assumption) | (with_reducible refine Below.alloc ?_ ?_ _) | (with_reducible refine Below.drew ?_) | (with_reducible refine Below.setCell ?_ ?_ _) | (with_reducible refine Below.stepB (by assumption) ?_ ?_) | go_size)
  have hu2 : (u == 2) = false := by simpa using h2
  by_cases h3 : u = 3
  · subst h3
    skip
    go_wp2_with fail
    refine (HAM.out (K + 18) w6.heap.size 2 2 [-1, 3] _ (by omega) (HC6.out.below (by repeat' (first | (with_reducible exact Below.refl _ _) | (with_reducible assumption) | (with_reducible refine Below.alloc ?_ ?_ _) | (with_reducible refine Below.drew ?_) | (with_reducible refine Below.setCell ?_ ?_ _) | (with_reducible refine Below.stepB (by assumption) ?_ ?_) | go_size))) ?_ (by omega) (by decide) (by decide) (by decide)).mono ?_
    · exact blk_newC _ (by simp)
    rintro e w7 ⟨z, rfl, hD⟩
    have HT7 := Lib.hid (Blk.keptC (HT6.out.alloc _) hD.2 (by omega))
    have HP7 := Lib.hid (Blk.keptC (HP6.out.alloc _) hD.2 (by omega))
    have HK7 := Lib.hid ((HK6.out.laterB (show Below w6.heap.size w6 _ from by repeat' (first | (with_reducible exact Below.refl _ _) | (with_reducible assumption) | (with_reducible refine Below.alloc ?_ ?_ _) | (with_reducible refine Below.drew ?_) | (with_reducible refine Below.setCell ?_ ?_ _) | (with_reducible refine Below.stepB (by assumption) ?_ ?_) | go_size))).trans1 hD.2)
    have HC7 := Lib.hid hD.1
    have hz7 := hD.2.size
    (try simp at hz7)
    clear hD
    clear p0 p1 p2 p3 p4 p5 p6 t0 t1 t2 t3 t4 t5 t6 tf tl
    have p0 : w7.cell? ⟨w5.heap.size, 0, none⟩ = some (.int .i64 id) := HP7.out.cell 0
    have t0 : w7.cell? ⟨w.heap.size, 0, none⟩ = some (.int .i64 0) := HT7.out.cell 0
    have p1 : w7.cell? ⟨w5.heap.size, 1, none⟩ = some (.int .i64 kd) := HP7.out.cell 1
    have t1 : w7.cell? ⟨w.heap.size, 1, none⟩ = some (.int .i64 0) := HT7.out.cell 1
    have p2 : w7.cell? ⟨w5.heap.size, 2, none⟩ = some (.int .i64 x) := HP7.out.cell 2
    have t2 : w7.cell? ⟨w.heap.size, 2, none⟩ = some (.int .i64 0) := HT7.out.cell 2
    have p3 : w7.cell? ⟨w5.heap.size, 3, none⟩ = some (.int .i64 y) := HP7.out.cell 3
    have t3 : w7.cell? ⟨w.heap.size, 3, none⟩ = some (.int .i64 0) := HT7.out.cell 3
    have p4 : w7.cell? ⟨w5.heap.size, 4, none⟩ = some (.int .i64 le) := HP7.out.cell 4
    have t4 : w7.cell? ⟨w.heap.size, 4, none⟩ = some (.int .i64 0) := HT7.out.cell 4
    have p5 : w7.cell? ⟨w5.heap.size, 5, none⟩ = some (.int .i64 qu) := HP7.out.cell 5
    have t5 : w7.cell? ⟨w.heap.size, 5, none⟩ = some (.int .i64 0) := HT7.out.cell 5
    have p6 : w7.cell? ⟨w5.heap.size, 6, none⟩ = some (.int .i64 se) := HP7.out.cell 6
    have t6 : w7.cell? ⟨w.heap.size, 6, none⟩ = some (.int .i64 0) := HT7.out.cell 6
    have pf := HP7.out.frozen
    have pl := HP7.out.lt
    have tf := HT7.out.frozen
    have tl := HT7.out.lt
    have pz : ∀ v, (w7.setCell ⟨w5.heap.size, 5, none⟩ v).cell? ⟨w5.heap.size, 5, none⟩ = some v := fun v => (HP7.out.set_ 5 v).cell 5
    have HTZ := Lib.hid (HT7.out.far (p := ⟨w5.heap.size, 5, none⟩) hne (.int .i64 z))
    have e0 : ∀ v0 : Value, ((w7.setCell ⟨w5.heap.size, 5, none⟩ (.int .i64 z)).setCell ⟨w.heap.size, 0, none⟩ v0).cell? ⟨w.heap.size, 0, none⟩ = some v0 := fun v0 => (HTZ.out.set_ 0 v0).cell 0
    have e1 : ∀ v0 v1 : Value, (((w7.setCell ⟨w5.heap.size, 5, none⟩ (.int .i64 z)).setCell ⟨w.heap.size, 0, none⟩ v0).setCell ⟨w.heap.size, 1, none⟩ v1).cell? ⟨w.heap.size, 1, none⟩ = some v1 := fun v0 v1 => ((HTZ.out.set_ 0 v0).set_ 1 v1).cell 1
    have e2 : ∀ v0 v1 v2 : Value, ((((w7.setCell ⟨w5.heap.size, 5, none⟩ (.int .i64 z)).setCell ⟨w.heap.size, 0, none⟩ v0).setCell ⟨w.heap.size, 1, none⟩ v1).setCell ⟨w.heap.size, 2, none⟩ v2).cell? ⟨w.heap.size, 2, none⟩ = some v2 := fun v0 v1 v2 => (((HTZ.out.set_ 0 v0).set_ 1 v1).set_ 2 v2).cell 2
    have e3 : ∀ v0 v1 v2 v3 : Value, (((((w7.setCell ⟨w5.heap.size, 5, none⟩ (.int .i64 z)).setCell ⟨w.heap.size, 0, none⟩ v0).setCell ⟨w.heap.size, 1, none⟩ v1).setCell ⟨w.heap.size, 2, none⟩ v2).setCell ⟨w.heap.size, 3, none⟩ v3).cell? ⟨w.heap.size, 3, none⟩ = some v3 := fun v0 v1 v2 v3 => ((((HTZ.out.set_ 0 v0).set_ 1 v1).set_ 2 v2).set_ 3 v3).cell 3
    have e4 : ∀ v0 v1 v2 v3 v4 : Value, ((((((w7.setCell ⟨w5.heap.size, 5, none⟩ (.int .i64 z)).setCell ⟨w.heap.size, 0, none⟩ v0).setCell ⟨w.heap.size, 1, none⟩ v1).setCell ⟨w.heap.size, 2, none⟩ v2).setCell ⟨w.heap.size, 3, none⟩ v3).setCell ⟨w.heap.size, 4, none⟩ v4).cell? ⟨w.heap.size, 4, none⟩ = some v4 := fun v0 v1 v2 v3 v4 => (((((HTZ.out.set_ 0 v0).set_ 1 v1).set_ 2 v2).set_ 3 v3).set_ 4 v4).cell 4
    have e5 : ∀ v0 v1 v2 v3 v4 v5 : Value, (((((((w7.setCell ⟨w5.heap.size, 5, none⟩ (.int .i64 z)).setCell ⟨w.heap.size, 0, none⟩ v0).setCell ⟨w.heap.size, 1, none⟩ v1).setCell ⟨w.heap.size, 2, none⟩ v2).setCell ⟨w.heap.size, 3, none⟩ v3).setCell ⟨w.heap.size, 4, none⟩ v4).setCell ⟨w.heap.size, 5, none⟩ v5).cell? ⟨w.heap.size, 5, none⟩ = some v5 := fun v0 v1 v2 v3 v4 v5 => ((((((HTZ.out.set_ 0 v0).set_ 1 v1).set_ 2 v2).set_ 3 v3).set_ 4 v4).set_ 5 v5).cell 5
    have e6 : ∀ v0 v1 v2 v3 v4 v5 v6 : Value, ((((((((w7.setCell ⟨w5.heap.size, 5, none⟩ (.int .i64 z)).setCell ⟨w.heap.size, 0, none⟩ v0).setCell ⟨w.heap.size, 1, none⟩ v1).setCell ⟨w.heap.size, 2, none⟩ v2).setCell ⟨w.heap.size, 3, none⟩ v3).setCell ⟨w.heap.size, 4, none⟩ v4).setCell ⟨w.heap.size, 5, none⟩ v5).setCell ⟨w.heap.size, 6, none⟩ v6).cell? ⟨w.heap.size, 6, none⟩ = some v6 := fun v0 v1 v2 v3 v4 v5 v6 => (((((((HTZ.out.set_ 0 v0).set_ 1 v1).set_ 2 v2).set_ 3 v3).set_ 4 v4).set_ 5 v5).set_ 6 v6).cell 6
    go_wp2
    (try simp only [Exit.inBlock, Exit.then])
    refine bodyPost_ret (by simp [results, Tryd.results54, go_sem, e0, e1, e2, e3, e4, e5, e6]; try rfl) rfl ?_
    refine ⟨⟨_, _, _, _, _, _, _⟩, rfl, (HC7.out.belowB (B := w.heap.size) ?_ hbl).more (by omega), HK7.out.onB ?_⟩ <;> repeat' (first | (with_reducible exact Below.refl _ _) | (with_reducible assumption) | (with_reducible refine Below.alloc ?_ ?_ _) | (with_reducible refine Below.drew ?_) | (with_reducible refine Below.setCell ?_ ?_ _) | (with_reducible refine Below.stepB (by assumption) ?_ ?_) | go_size)
  have hu3 : (u == 3) = false := by simpa using h3
  by_cases h4 : u = 4
  · subst h4
    skip
    go_wp2_with fail
    refine (HAM.out (K + 18) w6.heap.size 2 2 [-1, 10001] _ (by omega) (HC6.out.below (by repeat' (first | (with_reducible exact Below.refl _ _) | (with_reducible assumption) | (with_reducible refine Below.alloc ?_ ?_ _) | (with_reducible refine Below.drew ?_) | (with_reducible refine Below.setCell ?_ ?_ _) | (with_reducible refine Below.stepB (by assumption) ?_ ?_) | go_size))) ?_ (by omega) (by decide) (by decide) (by decide)).mono ?_
    · exact blk_newC _ (by simp)
    rintro e w7 ⟨z, rfl, hD⟩
    have HT7 := Lib.hid (Blk.keptC (HT6.out.alloc _) hD.2 (by omega))
    have HP7 := Lib.hid (Blk.keptC (HP6.out.alloc _) hD.2 (by omega))
    have HK7 := Lib.hid ((HK6.out.laterB (show Below w6.heap.size w6 _ from by repeat' (first | (with_reducible exact Below.refl _ _) | (with_reducible assumption) | (with_reducible refine Below.alloc ?_ ?_ _) | (with_reducible refine Below.drew ?_) | (with_reducible refine Below.setCell ?_ ?_ _) | (with_reducible refine Below.stepB (by assumption) ?_ ?_) | go_size))).trans1 hD.2)
    have HC7 := Lib.hid hD.1
    have hz7 := hD.2.size
    (try simp at hz7)
    clear hD
    clear p0 p1 p2 p3 p4 p5 p6 t0 t1 t2 t3 t4 t5 t6 tf tl
    have p0 : w7.cell? ⟨w5.heap.size, 0, none⟩ = some (.int .i64 id) := HP7.out.cell 0
    have t0 : w7.cell? ⟨w.heap.size, 0, none⟩ = some (.int .i64 0) := HT7.out.cell 0
    have p1 : w7.cell? ⟨w5.heap.size, 1, none⟩ = some (.int .i64 kd) := HP7.out.cell 1
    have t1 : w7.cell? ⟨w.heap.size, 1, none⟩ = some (.int .i64 0) := HT7.out.cell 1
    have p2 : w7.cell? ⟨w5.heap.size, 2, none⟩ = some (.int .i64 x) := HP7.out.cell 2
    have t2 : w7.cell? ⟨w.heap.size, 2, none⟩ = some (.int .i64 0) := HT7.out.cell 2
    have p3 : w7.cell? ⟨w5.heap.size, 3, none⟩ = some (.int .i64 y) := HP7.out.cell 3
    have t3 : w7.cell? ⟨w.heap.size, 3, none⟩ = some (.int .i64 0) := HT7.out.cell 3
    have p4 : w7.cell? ⟨w5.heap.size, 4, none⟩ = some (.int .i64 le) := HP7.out.cell 4
    have t4 : w7.cell? ⟨w.heap.size, 4, none⟩ = some (.int .i64 0) := HT7.out.cell 4
    have p5 : w7.cell? ⟨w5.heap.size, 5, none⟩ = some (.int .i64 qu) := HP7.out.cell 5
    have t5 : w7.cell? ⟨w.heap.size, 5, none⟩ = some (.int .i64 0) := HT7.out.cell 5
    have p6 : w7.cell? ⟨w5.heap.size, 6, none⟩ = some (.int .i64 se) := HP7.out.cell 6
    have t6 : w7.cell? ⟨w.heap.size, 6, none⟩ = some (.int .i64 0) := HT7.out.cell 6
    have pf := HP7.out.frozen
    have pl := HP7.out.lt
    have tf := HT7.out.frozen
    have tl := HT7.out.lt
    have pz : ∀ v, (w7.setCell ⟨w5.heap.size, 6, none⟩ v).cell? ⟨w5.heap.size, 6, none⟩ = some v := fun v => (HP7.out.set_ 6 v).cell 6
    have HTZ := Lib.hid (HT7.out.far (p := ⟨w5.heap.size, 6, none⟩) hne (.int .i64 z))
    have e0 : ∀ v0 : Value, ((w7.setCell ⟨w5.heap.size, 6, none⟩ (.int .i64 z)).setCell ⟨w.heap.size, 0, none⟩ v0).cell? ⟨w.heap.size, 0, none⟩ = some v0 := fun v0 => (HTZ.out.set_ 0 v0).cell 0
    have e1 : ∀ v0 v1 : Value, (((w7.setCell ⟨w5.heap.size, 6, none⟩ (.int .i64 z)).setCell ⟨w.heap.size, 0, none⟩ v0).setCell ⟨w.heap.size, 1, none⟩ v1).cell? ⟨w.heap.size, 1, none⟩ = some v1 := fun v0 v1 => ((HTZ.out.set_ 0 v0).set_ 1 v1).cell 1
    have e2 : ∀ v0 v1 v2 : Value, ((((w7.setCell ⟨w5.heap.size, 6, none⟩ (.int .i64 z)).setCell ⟨w.heap.size, 0, none⟩ v0).setCell ⟨w.heap.size, 1, none⟩ v1).setCell ⟨w.heap.size, 2, none⟩ v2).cell? ⟨w.heap.size, 2, none⟩ = some v2 := fun v0 v1 v2 => (((HTZ.out.set_ 0 v0).set_ 1 v1).set_ 2 v2).cell 2
    have e3 : ∀ v0 v1 v2 v3 : Value, (((((w7.setCell ⟨w5.heap.size, 6, none⟩ (.int .i64 z)).setCell ⟨w.heap.size, 0, none⟩ v0).setCell ⟨w.heap.size, 1, none⟩ v1).setCell ⟨w.heap.size, 2, none⟩ v2).setCell ⟨w.heap.size, 3, none⟩ v3).cell? ⟨w.heap.size, 3, none⟩ = some v3 := fun v0 v1 v2 v3 => ((((HTZ.out.set_ 0 v0).set_ 1 v1).set_ 2 v2).set_ 3 v3).cell 3
    have e4 : ∀ v0 v1 v2 v3 v4 : Value, ((((((w7.setCell ⟨w5.heap.size, 6, none⟩ (.int .i64 z)).setCell ⟨w.heap.size, 0, none⟩ v0).setCell ⟨w.heap.size, 1, none⟩ v1).setCell ⟨w.heap.size, 2, none⟩ v2).setCell ⟨w.heap.size, 3, none⟩ v3).setCell ⟨w.heap.size, 4, none⟩ v4).cell? ⟨w.heap.size, 4, none⟩ = some v4 := fun v0 v1 v2 v3 v4 => (((((HTZ.out.set_ 0 v0).set_ 1 v1).set_ 2 v2).set_ 3 v3).set_ 4 v4).cell 4
    have e5 : ∀ v0 v1 v2 v3 v4 v5 : Value, (((((((w7.setCell ⟨w5.heap.size, 6, none⟩ (.int .i64 z)).setCell ⟨w.heap.size, 0, none⟩ v0).setCell ⟨w.heap.size, 1, none⟩ v1).setCell ⟨w.heap.size, 2, none⟩ v2).setCell ⟨w.heap.size, 3, none⟩ v3).setCell ⟨w.heap.size, 4, none⟩ v4).setCell ⟨w.heap.size, 5, none⟩ v5).cell? ⟨w.heap.size, 5, none⟩ = some v5 := fun v0 v1 v2 v3 v4 v5 => ((((((HTZ.out.set_ 0 v0).set_ 1 v1).set_ 2 v2).set_ 3 v3).set_ 4 v4).set_ 5 v5).cell 5
    have e6 : ∀ v0 v1 v2 v3 v4 v5 v6 : Value, ((((((((w7.setCell ⟨w5.heap.size, 6, none⟩ (.int .i64 z)).setCell ⟨w.heap.size, 0, none⟩ v0).setCell ⟨w.heap.size, 1, none⟩ v1).setCell ⟨w.heap.size, 2, none⟩ v2).setCell ⟨w.heap.size, 3, none⟩ v3).setCell ⟨w.heap.size, 4, none⟩ v4).setCell ⟨w.heap.size, 5, none⟩ v5).setCell ⟨w.heap.size, 6, none⟩ v6).cell? ⟨w.heap.size, 6, none⟩ = some v6 := fun v0 v1 v2 v3 v4 v5 v6 => (((((((HTZ.out.set_ 0 v0).set_ 1 v1).set_ 2 v2).set_ 3 v3).set_ 4 v4).set_ 5 v5).set_ 6 v6).cell 6
    go_wp2
    (try simp only [Exit.inBlock, Exit.then])
    refine bodyPost_ret (by simp [results, Tryd.results54, go_sem, e0, e1, e2, e3, e4, e5, e6]; try rfl) rfl ?_
    refine ⟨⟨_, _, _, _, _, _, _⟩, rfl, (HC7.out.belowB (B := w.heap.size) ?_ hbl).more (by omega), HK7.out.onB ?_⟩ <;> repeat' (first | (with_reducible exact Below.refl _ _) | (with_reducible assumption) | (with_reducible refine Below.alloc ?_ ?_ _) | (with_reducible refine Below.drew ?_) | (with_reducible refine Below.setCell ?_ ?_ _) | (with_reducible refine Below.stepB (by assumption) ?_ ?_) | go_size)
  have hu4 : (u == 4) = false := by simpa using h4
  have pl := HP6.out.lt
  clear h0 h1 h2 h3 h4
  have e0 : ∀ v0 : Value, (w6.setCell ⟨w.heap.size, 0, none⟩ v0).cell? ⟨w.heap.size, 0, none⟩ = some v0 := fun v0 => (HT6.out.set_ 0 v0).cell 0
  have e1 : ∀ v0 v1 : Value, ((w6.setCell ⟨w.heap.size, 0, none⟩ v0).setCell ⟨w.heap.size, 1, none⟩ v1).cell? ⟨w.heap.size, 1, none⟩ = some v1 := fun v0 v1 => ((HT6.out.set_ 0 v0).set_ 1 v1).cell 1
  have e2 : ∀ v0 v1 v2 : Value, (((w6.setCell ⟨w.heap.size, 0, none⟩ v0).setCell ⟨w.heap.size, 1, none⟩ v1).setCell ⟨w.heap.size, 2, none⟩ v2).cell? ⟨w.heap.size, 2, none⟩ = some v2 := fun v0 v1 v2 => (((HT6.out.set_ 0 v0).set_ 1 v1).set_ 2 v2).cell 2
  have e3 : ∀ v0 v1 v2 v3 : Value, ((((w6.setCell ⟨w.heap.size, 0, none⟩ v0).setCell ⟨w.heap.size, 1, none⟩ v1).setCell ⟨w.heap.size, 2, none⟩ v2).setCell ⟨w.heap.size, 3, none⟩ v3).cell? ⟨w.heap.size, 3, none⟩ = some v3 := fun v0 v1 v2 v3 => ((((HT6.out.set_ 0 v0).set_ 1 v1).set_ 2 v2).set_ 3 v3).cell 3
  have e4 : ∀ v0 v1 v2 v3 v4 : Value, (((((w6.setCell ⟨w.heap.size, 0, none⟩ v0).setCell ⟨w.heap.size, 1, none⟩ v1).setCell ⟨w.heap.size, 2, none⟩ v2).setCell ⟨w.heap.size, 3, none⟩ v3).setCell ⟨w.heap.size, 4, none⟩ v4).cell? ⟨w.heap.size, 4, none⟩ = some v4 := fun v0 v1 v2 v3 v4 => (((((HT6.out.set_ 0 v0).set_ 1 v1).set_ 2 v2).set_ 3 v3).set_ 4 v4).cell 4
  have e5 : ∀ v0 v1 v2 v3 v4 v5 : Value, ((((((w6.setCell ⟨w.heap.size, 0, none⟩ v0).setCell ⟨w.heap.size, 1, none⟩ v1).setCell ⟨w.heap.size, 2, none⟩ v2).setCell ⟨w.heap.size, 3, none⟩ v3).setCell ⟨w.heap.size, 4, none⟩ v4).setCell ⟨w.heap.size, 5, none⟩ v5).cell? ⟨w.heap.size, 5, none⟩ = some v5 := fun v0 v1 v2 v3 v4 v5 => ((((((HT6.out.set_ 0 v0).set_ 1 v1).set_ 2 v2).set_ 3 v3).set_ 4 v4).set_ 5 v5).cell 5
  have e6 : ∀ v0 v1 v2 v3 v4 v5 v6 : Value, (((((((w6.setCell ⟨w.heap.size, 0, none⟩ v0).setCell ⟨w.heap.size, 1, none⟩ v1).setCell ⟨w.heap.size, 2, none⟩ v2).setCell ⟨w.heap.size, 3, none⟩ v3).setCell ⟨w.heap.size, 4, none⟩ v4).setCell ⟨w.heap.size, 5, none⟩ v5).setCell ⟨w.heap.size, 6, none⟩ v6).cell? ⟨w.heap.size, 6, none⟩ = some v6 := fun v0 v1 v2 v3 v4 v5 v6 => (((((((HT6.out.set_ 0 v0).set_ 1 v1).set_ 2 v2).set_ 3 v3).set_ 4 v4).set_ 5 v5).set_ 6 v6).cell 6
  go_wp2
  (try simp only [Exit.inBlock, Exit.then])
  refine bodyPost_ret (by simp [results, Tryd.results54, go_sem, e0, e1, e2, e3, e4, e5, e6]; try rfl) rfl ?_
  refine ⟨⟨_, _, _, _, _, _, _⟩, rfl, (HC6.out.belowB (B := w.heap.size) ?_ hbl).more (by omega), HK6.out.onB ?_⟩ <;> repeat' (first | (with_reducible exact Below.refl _ _) | (with_reducible assumption) | (with_reducible refine Below.alloc ?_ ?_ _) | (with_reducible refine Below.drew ?_) | (with_reducible refine Below.setCell ?_ ?_ _) | (with_reducible refine Below.stepB (by assumption) ?_ ?_) | go_size)
end Go.Proofs.YtclcgckledbpfaaDoor
