/- Contracts: the draw of a sounding and of soundings. -/
import Derived.Test.YtfflbkmncnaffaaCurM
import Derived.Test.YtfflbkmncnaffaaRowS
import Derived.Test.YtfflbkmncnaffaaSoundingA
namespace Go.Proofs.Ytfflbkmncnaffaa
open Go.RowKit
set_option maxRecDepth 100000 in
set_option maxHeartbeats 2000000 in
theorem sounding_any (b : Nat) (A : Option Addr) (n c K : Nat) (id : Int) (w : World) (h : CurS w b A n c K) (hK : K ≤ 999900) (hn : n ≤ 9223372036854775807) :
    Calls Try.prog 131 #[.pointer (some ⟨b, 0, none⟩), .int .i64 id] w fun e w' => ∃ s : SD, e = .returned (.agg #[.int .i64 s.id, .int .i64 s.x, .int .i64 s.y, .int .i64 s.depth, .int .i64 s.doubt]) ∧ Drew w b A n c (K + 16) w' := by
  have HPK := Lib.hid (fun K' (m : Int) W (hK : K' ≤ 999990) (hC : CurS W b A n c K') (hm : m ≤ 100000) => pick_any b A n c K' m W hC hK hn hm)
  have HAM := Lib.hid (fun K' g m c2 ls W (hK : K' ≤ 999990) (hC : CurS W b A n c K') hB hg hm0 hm hl => among_any b A n c K' g m c2 ls W hC hK hn hB hg hm0 hm hl)
  have HSP := Lib.hid (fun K' W (hK : K' ≤ 999900) (hC : CurS W b A n c K') => spot_any b A n c K' W hC hK hn)
  have HC := Lib.hid h
  have hbl := h.lt
  clear h
  go_enter Try.func131, Try.ntmps131
  go_wp2_with fail
  refine (HSP.out K _ (by omega) (HC.out.below (by repeat' (first | (with_reducible exact Below.refl _ _) | (with_reducible assumption) | (with_reducible refine Below.alloc ?_ ?_ _) | (with_reducible refine Below.drew ?_) | (with_reducible refine Below.setCell ?_ ?_ _) | (with_reducible refine Below.stepB (by assumption) ?_ ?_) | go_size)))).mono ?_
  rintro e w1 ⟨x, y, rfl, hD⟩
  have HT1 := Lib.hid (Blk.keptC (blk_newC (g := w.heap.size) (t := 65) (cs := #[.int .i64 0, .int .i64 0, .int .i64 0, .int .i64 0, .int .i64 0]) w rfl) hD.2 (by omega))
  have HK1 := Lib.hid (((Kept.refl w (some ⟨b, 0, none⟩) 1).laterB (show Below w.heap.size w _ from by repeat' (first | (with_reducible exact Below.refl _ _) | (with_reducible assumption) | (with_reducible refine Below.alloc ?_ ?_ _) | (with_reducible refine Below.drew ?_) | (with_reducible refine Below.setCell ?_ ?_ _) | (with_reducible refine Below.stepB (by assumption) ?_ ?_) | go_size))).trans1 hD.2)
  have HC1 := Lib.hid hD.1
  have hz1 := hD.2.size
  (try simp at hz1)
  clear hD
  go_wp2_with fail
  refine (HAM.out (K + 8) w1.heap.size 9 9 [0, 150, 800, 810, 825, 840, 1200, -30, 20000] _ (by omega) (HC1.out.below (by repeat' (first | (with_reducible exact Below.refl _ _) | (with_reducible assumption) | (with_reducible refine Below.alloc ?_ ?_ _) | (with_reducible refine Below.drew ?_) | (with_reducible refine Below.setCell ?_ ?_ _) | (with_reducible refine Below.stepB (by assumption) ?_ ?_) | go_size))) ?_ (by omega) (by decide) (by decide) (by decide)).mono ?_
  · exact blk_newC _ (by simp)
  rintro e w2 ⟨dp, rfl, hD⟩
  have HT2 := Lib.hid (Blk.keptC (HT1.out.alloc _) hD.2 (by omega))
  have HK2 := Lib.hid ((HK1.out.laterB (show Below w1.heap.size w1 _ from by repeat' (first | (with_reducible exact Below.refl _ _) | (with_reducible assumption) | (with_reducible refine Below.alloc ?_ ?_ _) | (with_reducible refine Below.drew ?_) | (with_reducible refine Below.setCell ?_ ?_ _) | (with_reducible refine Below.stepB (by assumption) ?_ ?_) | go_size))).trans1 hD.2)
  have HC2 := Lib.hid hD.1
  have hz2 := hD.2.size
  (try simp at hz2)
  clear hD
  go_wp2_with fail
  refine (HAM.out (K + 10) w2.heap.size 6 6 [0, 5, 10, 25, 100, 500] _ (by omega) (HC2.out.below (by repeat' (first | (with_reducible exact Below.refl _ _) | (with_reducible assumption) | (with_reducible refine Below.alloc ?_ ?_ _) | (with_reducible refine Below.drew ?_) | (with_reducible refine Below.setCell ?_ ?_ _) | (with_reducible refine Below.stepB (by assumption) ?_ ?_) | go_size))) ?_ (by omega) (by decide) (by decide) (by decide)).mono ?_
  · exact blk_newC _ (by simp)
  rintro e w3 ⟨db, rfl, hD⟩
  have HT3 := Lib.hid (Blk.keptC (HT2.out.alloc _) hD.2 (by omega))
  have HK3 := Lib.hid ((HK2.out.laterB (show Below w2.heap.size w2 _ from by repeat' (first | (with_reducible exact Below.refl _ _) | (with_reducible assumption) | (with_reducible refine Below.alloc ?_ ?_ _) | (with_reducible refine Below.drew ?_) | (with_reducible refine Below.setCell ?_ ?_ _) | (with_reducible refine Below.stepB (by assumption) ?_ ?_) | go_size))).trans1 hD.2)
  have HC3 := Lib.hid hD.1
  have hz3 := hD.2.size
  (try simp at hz3)
  clear hD
  have HP3 := Lib.hid (blk_newC (g := w3.heap.size) (t := 65) (cs := #[.int .i64 id, .int .i64 x, .int .i64 y, .int .i64 dp, .int .i64 db]) w3 rfl)
  have hne : w.heap.size ≠ w3.heap.size := by omega
  go_wp2_with fail
  refine (HPK.out (K + 12) 64 _ (by omega) (HC3.out.below (by repeat' (first | (with_reducible exact Below.refl _ _) | (with_reducible assumption) | (with_reducible refine Below.alloc ?_ ?_ _) | (with_reducible refine Below.drew ?_) | (with_reducible refine Below.setCell ?_ ?_ _) | (with_reducible refine Below.stepB (by assumption) ?_ ?_) | go_size))) (by decide)).mono ?_
  rintro e w5 ⟨u, rfl, u0, u1, hD⟩
  have HT5 := Lib.hid (Blk.keptC (HT3.out.alloc _) hD.2 (by omega))
  have HP5 := Lib.hid (Blk.keptC HP3.out hD.2 (by omega))
  have HK5 := Lib.hid ((HK3.out.laterB (show Below w3.heap.size w3 _ from by repeat' (first | (with_reducible exact Below.refl _ _) | (with_reducible assumption) | (with_reducible refine Below.alloc ?_ ?_ _) | (with_reducible refine Below.drew ?_) | (with_reducible refine Below.setCell ?_ ?_ _) | (with_reducible refine Below.stepB (by assumption) ?_ ?_) | go_size))).trans1 hD.2)
  have HC5 := Lib.hid hD.1
  have hz5 := hD.2.size
  (try simp at hz5)
  clear hD
  have p0 : w5.cell? ⟨w3.heap.size, 0, none⟩ = some (.int .i64 id) := HP5.out.cell 0
  have t0 : w5.cell? ⟨w.heap.size, 0, none⟩ = some (.int .i64 0) := HT5.out.cell 0
  have p1 : w5.cell? ⟨w3.heap.size, 1, none⟩ = some (.int .i64 x) := HP5.out.cell 1
  have t1 : w5.cell? ⟨w.heap.size, 1, none⟩ = some (.int .i64 0) := HT5.out.cell 1
  have p2 : w5.cell? ⟨w3.heap.size, 2, none⟩ = some (.int .i64 y) := HP5.out.cell 2
  have t2 : w5.cell? ⟨w.heap.size, 2, none⟩ = some (.int .i64 0) := HT5.out.cell 2
  have p3 : w5.cell? ⟨w3.heap.size, 3, none⟩ = some (.int .i64 dp) := HP5.out.cell 3
  have t3 : w5.cell? ⟨w.heap.size, 3, none⟩ = some (.int .i64 0) := HT5.out.cell 3
  have p4 : w5.cell? ⟨w3.heap.size, 4, none⟩ = some (.int .i64 db) := HP5.out.cell 4
  have t4 : w5.cell? ⟨w.heap.size, 4, none⟩ = some (.int .i64 0) := HT5.out.cell 4
  have tf := HT5.out.frozen
  have tl := HT5.out.lt
  by_cases h0 : u = 0
  · subst h0
    skip
    go_wp2_with fail
    refine (HAM.out (K + 14) w5.heap.size 3 3 [-1001, -1000, 20001] _ (by omega) (HC5.out.below (by repeat' (first | (with_reducible exact Below.refl _ _) | (with_reducible assumption) | (with_reducible refine Below.alloc ?_ ?_ _) | (with_reducible refine Below.drew ?_) | (with_reducible refine Below.setCell ?_ ?_ _) | (with_reducible refine Below.stepB (by assumption) ?_ ?_) | go_size))) ?_ (by omega) (by decide) (by decide) (by decide)).mono ?_
    · exact blk_newC _ (by simp)
    rintro e w6 ⟨z, rfl, hD⟩
    have HT6 := Lib.hid (Blk.keptC (HT5.out.alloc _) hD.2 (by omega))
    have HP6 := Lib.hid (Blk.keptC (HP5.out.alloc _) hD.2 (by omega))
    have HK6 := Lib.hid ((HK5.out.laterB (show Below w5.heap.size w5 _ from by repeat' (first | (with_reducible exact Below.refl _ _) | (with_reducible assumption) | (with_reducible refine Below.alloc ?_ ?_ _) | (with_reducible refine Below.drew ?_) | (with_reducible refine Below.setCell ?_ ?_ _) | (with_reducible refine Below.stepB (by assumption) ?_ ?_) | go_size))).trans1 hD.2)
    have HC6 := Lib.hid hD.1
    have hz6 := hD.2.size
    (try simp at hz6)
    clear hD p0 p1 p2 p3 p4 t0 t1 t2 t3 t4 tf tl
    have p0 : w6.cell? ⟨w3.heap.size, 0, none⟩ = some (.int .i64 id) := HP6.out.cell 0
    have t0 : w6.cell? ⟨w.heap.size, 0, none⟩ = some (.int .i64 0) := HT6.out.cell 0
    have p1 : w6.cell? ⟨w3.heap.size, 1, none⟩ = some (.int .i64 x) := HP6.out.cell 1
    have t1 : w6.cell? ⟨w.heap.size, 1, none⟩ = some (.int .i64 0) := HT6.out.cell 1
    have p2 : w6.cell? ⟨w3.heap.size, 2, none⟩ = some (.int .i64 y) := HP6.out.cell 2
    have t2 : w6.cell? ⟨w.heap.size, 2, none⟩ = some (.int .i64 0) := HT6.out.cell 2
    have p3 : w6.cell? ⟨w3.heap.size, 3, none⟩ = some (.int .i64 dp) := HP6.out.cell 3
    have t3 : w6.cell? ⟨w.heap.size, 3, none⟩ = some (.int .i64 0) := HT6.out.cell 3
    have p4 : w6.cell? ⟨w3.heap.size, 4, none⟩ = some (.int .i64 db) := HP6.out.cell 4
    have t4 : w6.cell? ⟨w.heap.size, 4, none⟩ = some (.int .i64 0) := HT6.out.cell 4
    have pf := HP6.out.frozen
    have pl := HP6.out.lt
    have tf := HT6.out.frozen
    have tl := HT6.out.lt
    have pz : ∀ v, (w6.setCell ⟨w3.heap.size, 3, none⟩ v).cell? ⟨w3.heap.size, 3, none⟩ = some v := fun v => (HP6.out.set_ 3 v).cell 3
    have HTZ := Lib.hid (HT6.out.far (p := ⟨w3.heap.size, 3, none⟩) hne (.int .i64 z))
    have e0 : ∀ v0 : Value, ((w6.setCell ⟨w3.heap.size, 3, none⟩ (.int .i64 z)).setCell ⟨w.heap.size, 0, none⟩ v0).cell? ⟨w.heap.size, 0, none⟩ = some v0 := fun v0 => (HTZ.out.set_ 0 v0).cell 0
    have e1 : ∀ v0 v1 : Value, (((w6.setCell ⟨w3.heap.size, 3, none⟩ (.int .i64 z)).setCell ⟨w.heap.size, 0, none⟩ v0).setCell ⟨w.heap.size, 1, none⟩ v1).cell? ⟨w.heap.size, 1, none⟩ = some v1 := fun v0 v1 => ((HTZ.out.set_ 0 v0).set_ 1 v1).cell 1
    have e2 : ∀ v0 v1 v2 : Value, ((((w6.setCell ⟨w3.heap.size, 3, none⟩ (.int .i64 z)).setCell ⟨w.heap.size, 0, none⟩ v0).setCell ⟨w.heap.size, 1, none⟩ v1).setCell ⟨w.heap.size, 2, none⟩ v2).cell? ⟨w.heap.size, 2, none⟩ = some v2 := fun v0 v1 v2 => (((HTZ.out.set_ 0 v0).set_ 1 v1).set_ 2 v2).cell 2
    have e3 : ∀ v0 v1 v2 v3 : Value, (((((w6.setCell ⟨w3.heap.size, 3, none⟩ (.int .i64 z)).setCell ⟨w.heap.size, 0, none⟩ v0).setCell ⟨w.heap.size, 1, none⟩ v1).setCell ⟨w.heap.size, 2, none⟩ v2).setCell ⟨w.heap.size, 3, none⟩ v3).cell? ⟨w.heap.size, 3, none⟩ = some v3 := fun v0 v1 v2 v3 => ((((HTZ.out.set_ 0 v0).set_ 1 v1).set_ 2 v2).set_ 3 v3).cell 3
    have e4 : ∀ v0 v1 v2 v3 v4 : Value, ((((((w6.setCell ⟨w3.heap.size, 3, none⟩ (.int .i64 z)).setCell ⟨w.heap.size, 0, none⟩ v0).setCell ⟨w.heap.size, 1, none⟩ v1).setCell ⟨w.heap.size, 2, none⟩ v2).setCell ⟨w.heap.size, 3, none⟩ v3).setCell ⟨w.heap.size, 4, none⟩ v4).cell? ⟨w.heap.size, 4, none⟩ = some v4 := fun v0 v1 v2 v3 v4 => (((((HTZ.out.set_ 0 v0).set_ 1 v1).set_ 2 v2).set_ 3 v3).set_ 4 v4).cell 4
    go_wp2
    (try simp only [Exit.inBlock, Exit.then])
    refine bodyPost_ret (by simp [results, Try.results131, go_sem, e0, e1, e2, e3, e4]; try rfl) rfl ?_
    refine ⟨⟨_, _, _, _, _⟩, rfl, (HC6.out.belowB (B := w.heap.size) ?_ hbl).more (by omega), HK6.out.onB ?_⟩ <;> repeat' (first | (with_reducible exact Below.refl _ _) | (with_reducible assumption) | (with_reducible refine Below.alloc ?_ ?_ _) | (with_reducible refine Below.drew ?_) | (with_reducible refine Below.setCell ?_ ?_ _) | (with_reducible refine Below.stepB (by assumption) ?_ ?_) | go_size)
  have hu0 : (u == 0) = false := by simpa using h0
  by_cases h1 : u = 1
  · subst h1
    skip
    go_wp2_with fail
    refine (HAM.out (K + 14) w5.heap.size 2 2 [-1, 501] _ (by omega) (HC5.out.below (by repeat' (first | (with_reducible exact Below.refl _ _) | (with_reducible assumption) | (with_reducible refine Below.alloc ?_ ?_ _) | (with_reducible refine Below.drew ?_) | (with_reducible refine Below.setCell ?_ ?_ _) | (with_reducible refine Below.stepB (by assumption) ?_ ?_) | go_size))) ?_ (by omega) (by decide) (by decide) (by decide)).mono ?_
    · exact blk_newC _ (by simp)
    rintro e w6 ⟨z, rfl, hD⟩
    have HT6 := Lib.hid (Blk.keptC (HT5.out.alloc _) hD.2 (by omega))
    have HP6 := Lib.hid (Blk.keptC (HP5.out.alloc _) hD.2 (by omega))
    have HK6 := Lib.hid ((HK5.out.laterB (show Below w5.heap.size w5 _ from by repeat' (first | (with_reducible exact Below.refl _ _) | (with_reducible assumption) | (with_reducible refine Below.alloc ?_ ?_ _) | (with_reducible refine Below.drew ?_) | (with_reducible refine Below.setCell ?_ ?_ _) | (with_reducible refine Below.stepB (by assumption) ?_ ?_) | go_size))).trans1 hD.2)
    have HC6 := Lib.hid hD.1
    have hz6 := hD.2.size
    (try simp at hz6)
    clear hD p0 p1 p2 p3 p4 t0 t1 t2 t3 t4 tf tl
    have p0 : w6.cell? ⟨w3.heap.size, 0, none⟩ = some (.int .i64 id) := HP6.out.cell 0
    have t0 : w6.cell? ⟨w.heap.size, 0, none⟩ = some (.int .i64 0) := HT6.out.cell 0
    have p1 : w6.cell? ⟨w3.heap.size, 1, none⟩ = some (.int .i64 x) := HP6.out.cell 1
    have t1 : w6.cell? ⟨w.heap.size, 1, none⟩ = some (.int .i64 0) := HT6.out.cell 1
    have p2 : w6.cell? ⟨w3.heap.size, 2, none⟩ = some (.int .i64 y) := HP6.out.cell 2
    have t2 : w6.cell? ⟨w.heap.size, 2, none⟩ = some (.int .i64 0) := HT6.out.cell 2
    have p3 : w6.cell? ⟨w3.heap.size, 3, none⟩ = some (.int .i64 dp) := HP6.out.cell 3
    have t3 : w6.cell? ⟨w.heap.size, 3, none⟩ = some (.int .i64 0) := HT6.out.cell 3
    have p4 : w6.cell? ⟨w3.heap.size, 4, none⟩ = some (.int .i64 db) := HP6.out.cell 4
    have t4 : w6.cell? ⟨w.heap.size, 4, none⟩ = some (.int .i64 0) := HT6.out.cell 4
    have pf := HP6.out.frozen
    have pl := HP6.out.lt
    have tf := HT6.out.frozen
    have tl := HT6.out.lt
    have pz : ∀ v, (w6.setCell ⟨w3.heap.size, 4, none⟩ v).cell? ⟨w3.heap.size, 4, none⟩ = some v := fun v => (HP6.out.set_ 4 v).cell 4
    have HTZ := Lib.hid (HT6.out.far (p := ⟨w3.heap.size, 4, none⟩) hne (.int .i64 z))
    have e0 : ∀ v0 : Value, ((w6.setCell ⟨w3.heap.size, 4, none⟩ (.int .i64 z)).setCell ⟨w.heap.size, 0, none⟩ v0).cell? ⟨w.heap.size, 0, none⟩ = some v0 := fun v0 => (HTZ.out.set_ 0 v0).cell 0
    have e1 : ∀ v0 v1 : Value, (((w6.setCell ⟨w3.heap.size, 4, none⟩ (.int .i64 z)).setCell ⟨w.heap.size, 0, none⟩ v0).setCell ⟨w.heap.size, 1, none⟩ v1).cell? ⟨w.heap.size, 1, none⟩ = some v1 := fun v0 v1 => ((HTZ.out.set_ 0 v0).set_ 1 v1).cell 1
    have e2 : ∀ v0 v1 v2 : Value, ((((w6.setCell ⟨w3.heap.size, 4, none⟩ (.int .i64 z)).setCell ⟨w.heap.size, 0, none⟩ v0).setCell ⟨w.heap.size, 1, none⟩ v1).setCell ⟨w.heap.size, 2, none⟩ v2).cell? ⟨w.heap.size, 2, none⟩ = some v2 := fun v0 v1 v2 => (((HTZ.out.set_ 0 v0).set_ 1 v1).set_ 2 v2).cell 2
    have e3 : ∀ v0 v1 v2 v3 : Value, (((((w6.setCell ⟨w3.heap.size, 4, none⟩ (.int .i64 z)).setCell ⟨w.heap.size, 0, none⟩ v0).setCell ⟨w.heap.size, 1, none⟩ v1).setCell ⟨w.heap.size, 2, none⟩ v2).setCell ⟨w.heap.size, 3, none⟩ v3).cell? ⟨w.heap.size, 3, none⟩ = some v3 := fun v0 v1 v2 v3 => ((((HTZ.out.set_ 0 v0).set_ 1 v1).set_ 2 v2).set_ 3 v3).cell 3
    have e4 : ∀ v0 v1 v2 v3 v4 : Value, ((((((w6.setCell ⟨w3.heap.size, 4, none⟩ (.int .i64 z)).setCell ⟨w.heap.size, 0, none⟩ v0).setCell ⟨w.heap.size, 1, none⟩ v1).setCell ⟨w.heap.size, 2, none⟩ v2).setCell ⟨w.heap.size, 3, none⟩ v3).setCell ⟨w.heap.size, 4, none⟩ v4).cell? ⟨w.heap.size, 4, none⟩ = some v4 := fun v0 v1 v2 v3 v4 => (((((HTZ.out.set_ 0 v0).set_ 1 v1).set_ 2 v2).set_ 3 v3).set_ 4 v4).cell 4
    go_wp2
    (try simp only [Exit.inBlock, Exit.then])
    refine bodyPost_ret (by simp [results, Try.results131, go_sem, e0, e1, e2, e3, e4]; try rfl) rfl ?_
    refine ⟨⟨_, _, _, _, _⟩, rfl, (HC6.out.belowB (B := w.heap.size) ?_ hbl).more (by omega), HK6.out.onB ?_⟩ <;> repeat' (first | (with_reducible exact Below.refl _ _) | (with_reducible assumption) | (with_reducible refine Below.alloc ?_ ?_ _) | (with_reducible refine Below.drew ?_) | (with_reducible refine Below.setCell ?_ ?_ _) | (with_reducible refine Below.stepB (by assumption) ?_ ?_) | go_size)
  have hu1 : (u == 1) = false := by simpa using h1
  have pl := HP5.out.lt
  clear h0 h1
  have e0 : ∀ v0 : Value, (w5.setCell ⟨w.heap.size, 0, none⟩ v0).cell? ⟨w.heap.size, 0, none⟩ = some v0 := fun v0 => (HT5.out.set_ 0 v0).cell 0
  have e1 : ∀ v0 v1 : Value, ((w5.setCell ⟨w.heap.size, 0, none⟩ v0).setCell ⟨w.heap.size, 1, none⟩ v1).cell? ⟨w.heap.size, 1, none⟩ = some v1 := fun v0 v1 => ((HT5.out.set_ 0 v0).set_ 1 v1).cell 1
  have e2 : ∀ v0 v1 v2 : Value, (((w5.setCell ⟨w.heap.size, 0, none⟩ v0).setCell ⟨w.heap.size, 1, none⟩ v1).setCell ⟨w.heap.size, 2, none⟩ v2).cell? ⟨w.heap.size, 2, none⟩ = some v2 := fun v0 v1 v2 => (((HT5.out.set_ 0 v0).set_ 1 v1).set_ 2 v2).cell 2
  have e3 : ∀ v0 v1 v2 v3 : Value, ((((w5.setCell ⟨w.heap.size, 0, none⟩ v0).setCell ⟨w.heap.size, 1, none⟩ v1).setCell ⟨w.heap.size, 2, none⟩ v2).setCell ⟨w.heap.size, 3, none⟩ v3).cell? ⟨w.heap.size, 3, none⟩ = some v3 := fun v0 v1 v2 v3 => ((((HT5.out.set_ 0 v0).set_ 1 v1).set_ 2 v2).set_ 3 v3).cell 3
  have e4 : ∀ v0 v1 v2 v3 v4 : Value, (((((w5.setCell ⟨w.heap.size, 0, none⟩ v0).setCell ⟨w.heap.size, 1, none⟩ v1).setCell ⟨w.heap.size, 2, none⟩ v2).setCell ⟨w.heap.size, 3, none⟩ v3).setCell ⟨w.heap.size, 4, none⟩ v4).cell? ⟨w.heap.size, 4, none⟩ = some v4 := fun v0 v1 v2 v3 v4 => (((((HT5.out.set_ 0 v0).set_ 1 v1).set_ 2 v2).set_ 3 v3).set_ 4 v4).cell 4
  go_wp2
  (try simp only [Exit.inBlock, Exit.then])
  refine bodyPost_ret (by simp [results, Try.results131, go_sem, e0, e1, e2, e3, e4]; try rfl) rfl ?_
  refine ⟨⟨_, _, _, _, _⟩, rfl, (HC5.out.belowB (B := w.heap.size) ?_ hbl).more (by omega), HK5.out.onB ?_⟩ <;> repeat' (first | (with_reducible exact Below.refl _ _) | (with_reducible assumption) | (with_reducible refine Below.alloc ?_ ?_ _) | (with_reducible refine Below.drew ?_) | (with_reducible refine Below.setCell ?_ ?_ _) | (with_reducible refine Below.stepB (by assumption) ?_ ?_) | go_size)
end Go.Proofs.Ytfflbkmncnaffaa
