/- Contracts: the draws of a distance, of a sample and of samples. -/
import Derived.Test.YtfecepjdjikenaaCur
import Derived.Test.YtfecepjdjikenaaTwo
import Derived.Test.YtfecepjdjikenaaGood
import Derived.Deep.DeepCutAuto
namespace Go.Proofs.Ytfecepjdjikenaa
open Go.RowKit
theorem curInt_info : (Try.prog.info? 3).map (fun i => (i.zero, i.size, i.bytes)) = some (some (.int .i64 0), 1, 8) := by kernel_rfl
/-- a number of some, among the first few -/
theorem quo_bd {x : Int} (x0 : 0 ≤ x) (x1 : x < 24) : 0 ≤ x.tdiv 11 ∧ x.tdiv 11 ≤ 2 := by
  rw [Int.tdiv_eq_ediv_of_nonneg x0]
  omega
theorem far17_any (b : Nat) (A : Option Addr) (n c K : Nat) (w : World) (h : CurS w b A n c K) (hK : K ≤ 999900) (hn : n ≤ 9223372036854775807) :
    Calls Try.prog 86 #[.pointer (some ⟨b, 0, none⟩)] w fun e w' => ∃ x : Int, e = .returned (.int .i64 x) ∧ Drew w b A n c (K + 4) w' := by
  have HPK := Lib.hid (fun K' (m : Int) W (hK : K' ≤ 999990) (hC : CurS W b A n c K') (hm : m ≤ 100000) => pick_any b A n c K' m W hC hK hn hm)
  have HAM := Lib.hid (fun K' g m c2 ls W (hK : K' ≤ 999990) (hC : CurS W b A n c K') hB hg hm0 hm hl => among_any b A n c K' g m c2 ls W hC hK hn hB hg hm0 hm hl)
  have HON := Lib.hid (fun K' (m : Int) W (hK : K' ≤ 999990) (hC : CurS W b A n c K') (hm : m ≤ 100000) => one_any b A n c K' m W hC hK hn hm)
  have HC := Lib.hid h
  have hbl := h.lt
  clear h
  have HK0 := Lib.hid (Kept.refl w (some ⟨b, 0, none⟩) 1)
  go_enter Try.func86, Try.ntmps86
  go_wp2_with fail
  refine (HPK.out K 24 _ (by omega) (HC.out.below (by repeat' (first | (with_reducible exact Below.refl _ _) | (with_reducible assumption) | (with_reducible refine Below.alloc ?_ ?_ _) | (with_reducible refine Below.drew ?_) | (with_reducible refine Below.setCell ?_ ?_ _) | (with_reducible refine Below.stepB (by assumption) ?_ ?_) | go_size))) (by decide)).mono ?_
  rintro e w1 ⟨x, rfl, x0, x1, hD⟩
  have HL1 := Lib.hid (Blk.keptC (blk_newC (g := w.heap.size) (t := 3) (cs := (([0, 5, 100, 500, 1500, 2000, -1, 2001] : List Int).map (Value.int .i64)).toArray) w rfl) hD.2 (by omega))
  have HK1 := Lib.hid ((HK0.out.laterB (show Below w.heap.size w _ from by repeat' (first | (with_reducible exact Below.refl _ _) | (with_reducible assumption) | (with_reducible refine Below.alloc ?_ ?_ _) | (with_reducible refine Below.drew ?_) | (with_reducible refine Below.setCell ?_ ?_ _) | (with_reducible refine Below.stepB (by assumption) ?_ ?_) | go_size))).trans1 hD.2)
  have HC1 := Lib.hid hD.1
  have hz1 := hD.2.size
  (try simp at hz1)
  clear hD
  have hx : x < 24 := by omega
  have hx0 : 0 ≤ x := x0
  go_wp2_with fail
  refine (HAM.out (K + 2) w.heap.size (6 + x / 11).toNat 8 [0, 5, 100, 500, 1500, 2000, -1, 2001] w1 (by omega) HC1.out HL1.out (by omega) (by omega) (by simp; omega) (by decide)).mono ?_
  rintro e w2 ⟨y, rfl, hD⟩
  have HK2 := Lib.hid (HK1.out.trans1 hD.2)
  have HC2 := Lib.hid hD.1
  clear hD
  go_wp2
  go_ret
  exact ⟨y, rfl, HC2.out, HK2.out⟩
theorem l1Least_any (x y : Int) (w : World) : Calls Try.prog 104 #[.int .i64 x, .int .i64 y] w fun e w' => ∃ r : Int, e = .returned (.int .i64 r) ∧ w = w' := by
  go_enter Try.func104, Try.ntmps104
  by_cases h : x < y
  · go_wp2
    go_ret
    exact ⟨x, rfl, rfl⟩
  · go_wp2
    go_ret
    first | exact ⟨y, rfl, rfl⟩ | exact ⟨⟨y, rfl⟩, rfl⟩ | exact ⟨y, rfl⟩
set_option maxRecDepth 100000 in
set_option maxHeartbeats 2000000 in
theorem bottom_any (b : Nat) (A : Option Addr) (n c K : Nat) (id : Int) (w : World) (h : CurS w b A n c K) (hK : K ≤ 999900) (hn : n ≤ 9223372036854775807) :
    Calls Try.prog 90 #[.pointer (some ⟨b, 0, none⟩), .int .i64 id] w fun e w' => ∃ s : BS, e = .returned (.agg #[.int .i64 s.id, .int .i64 s.x, .int .i64 s.y, .int .i64 s.mud, .int .i64 s.sand, .int .i64 s.rock]) ∧ Drew w b A n c (K + 16) w' := by
  have HSP := Lib.hid (fun K' W (hK : K' ≤ 999900) (hC : CurS W b A n c K') => spot_any b A n c K' W hC hK hn)
  have HPK := Lib.hid (fun K' (m : Int) W (hK : K' ≤ 999990) (hC : CurS W b A n c K') (hm : m ≤ 100000) => pick_any b A n c K' m W hC hK hn hm)
  have HAM := Lib.hid (fun K' g m c2 ls W (hK : K' ≤ 999990) (hC : CurS W b A n c K') hB hg hm0 hm hl => among_any b A n c K' g m c2 ls W hC hK hn hB hg hm0 hm hl)
  have HON := Lib.hid (fun K' (m : Int) W (hK : K' ≤ 999990) (hC : CurS W b A n c K') (hm : m ≤ 100000) => one_any b A n c K' m W hC hK hn hm)
  have HC := Lib.hid h
  have hbl := h.lt
  clear h
  have HK0 := Lib.hid (Kept.refl w (some ⟨b, 0, none⟩) 1)
  go_enter Try.func90, Try.ntmps90
  go_wp2_with fail
  refine (HSP.out K _ (by omega) (HC.out.below (by repeat' (first | (with_reducible exact Below.refl _ _) | (with_reducible assumption) | (with_reducible refine Below.alloc ?_ ?_ _) | (with_reducible refine Below.drew ?_) | (with_reducible refine Below.setCell ?_ ?_ _) | (with_reducible refine Below.stepB (by assumption) ?_ ?_) | go_size)))).mono ?_
  rintro e w1 ⟨x, y, rfl, hD⟩
  have HT1 := Lib.hid (Blk.keptC (blk_newC (g := w.heap.size) (t := 29) (cs := #[.int .i64 0, .int .i64 0, .int .i64 0, .int .i64 0, .int .i64 0, .int .i64 0]) w rfl) hD.2 (by omega))
  have HK1 := Lib.hid ((HK0.out.laterB (show Below w.heap.size w _ from by repeat' (first | (with_reducible exact Below.refl _ _) | (with_reducible assumption) | (with_reducible refine Below.alloc ?_ ?_ _) | (with_reducible refine Below.drew ?_) | (with_reducible refine Below.setCell ?_ ?_ _) | (with_reducible refine Below.stepB (by assumption) ?_ ?_) | go_size))).trans1 hD.2)
  have HC1 := Lib.hid hD.1
  have hz1 := hD.2.size
  (try simp at hz1)
  clear hD
  go_wp2_with fail
  refine (HAM.out (K + 8) w1.heap.size 6 6 [0, 20, 30, 33, 40, 100] _ (by omega) (HC1.out.below (by repeat' (first | (with_reducible exact Below.refl _ _) | (with_reducible assumption) | (with_reducible refine Below.alloc ?_ ?_ _) | (with_reducible refine Below.drew ?_) | (with_reducible refine Below.setCell ?_ ?_ _) | (with_reducible refine Below.stepB (by assumption) ?_ ?_) | go_size))) ?_ (by omega) (by decide) (by decide) (by decide)).mono ?_
  · exact blk_newC _ (by simp)
  rintro e w2 ⟨m, rfl, hD⟩
  have HT2 := Lib.hid (Blk.keptC (HT1.out.alloc _) hD.2 (by omega))
  have HK2 := Lib.hid ((HK1.out.laterB (show Below w1.heap.size w1 _ from by repeat' (first | (with_reducible exact Below.refl _ _) | (with_reducible assumption) | (with_reducible refine Below.alloc ?_ ?_ _) | (with_reducible refine Below.drew ?_) | (with_reducible refine Below.setCell ?_ ?_ _) | (with_reducible refine Below.stepB (by assumption) ?_ ?_) | go_size))).trans1 hD.2)
  have HC2 := Lib.hid hD.1
  have hz2 := hD.2.size
  (try simp at hz2)
  clear hD
  go_upto_region 2 with fail
  have HP2 := Lib.hid (blk_newC (g := w2.heap.size) (t := 29) (cs := #[.int .i64 id, .int .i64 x, .int .i64 y, .int .i64 m, .int .i64 0, .int .i64 0]) w2 rfl)
  go_cut [5] (fun v5 wx => ∃ sd : Int, v5 = .pointer (some ⟨w2.heap.size, 0, none⟩) ∧ Hid (Blk wx w2.heap.size 29 #[.int .i64 id, .int .i64 x, .int .i64 y, .int .i64 m, .int .i64 sd, .int .i64 0]) ∧ Hid (Blk wx w.heap.size 29 #[.int .i64 0, .int .i64 0, .int .i64 0, .int .i64 0, .int .i64 0, .int .i64 0]) ∧ Hid (CurS wx b A n c (K + 12)) ∧ Hid (Kept w wx (some ⟨b, 0, none⟩) 1) ∧ w2.heap.size < wx.heap.size)
  case first =>
    go_region_law (first
      | (go_simp; go_at_call 88; refine (HAM.out (K + 10) (w2.heap.size + 1) 6 6 [0, 19, 20, 30, 40, 60] _ (by omega) (HC2.out.below (by repeat' (first | (with_reducible exact Below.refl _ _) | (with_reducible assumption) | (with_reducible refine Below.alloc ?_ ?_ _) | (with_reducible refine Below.drew ?_) | (with_reducible refine Below.setCell ?_ ?_ _) | (with_reducible refine Below.stepB (by assumption) ?_ ?_) | go_size))) (Blk.drew (blk_newC _ (by simp))) (by omega) (by decide) (by decide) (by decide)).mono ?_; rintro e w3 ⟨sd, rfl, hD⟩; have HT3 := Lib.hid (Blk.keptC (((HT2.out.alloc _).alloc _).drew) hD.2 (by omega)); have HP3 := Lib.hid (Blk.keptC ((HP2.out.alloc _).drew) hD.2 (by omega)); have HK3 := Lib.hid ((HK2.out.laterB (show Below w2.heap.size w2 _ from by repeat' (first | (with_reducible exact Below.refl _ _) | (with_reducible assumption) | (with_reducible refine Below.alloc ?_ ?_ _) | (with_reducible refine Below.drew ?_) | (with_reducible refine Below.setCell ?_ ?_ _) | (with_reducible refine Below.stepB (by assumption) ?_ ?_) | go_size))).trans1 hD.2); have HC3 := Lib.hid hD.1; have hz3 := hD.2.size; (try simp at hz3); clear hD; have p3 : w3.cell? ⟨w2.heap.size, 3, none⟩ = some (.int .i64 m) := HP3.out.cell 3; have p4 : w3.cell? ⟨w2.heap.size, 4, none⟩ = some (.int .i64 0) := HP3.out.cell 4; have pf := HP3.out.frozen; have pl := HP3.out.lt)
      | (go_simp; go_at_call 104; refine (l1Least_any _ _ _).mono ?_; rintro e w' ⟨r, rfl, rfl⟩))
    all_goals (go_wp2_with fail; go_meet)
    all_goals exact ⟨r, rfl, HP3.out.set_ 4 _, HT3.out.far (p := ⟨w2.heap.size, 4, none⟩) (by show w.heap.size ≠ w2.heap.size; omega) _, HC3.out.belowB (B := w.heap.size) (by repeat' (first | (with_reducible exact Below.refl _ _) | (with_reducible assumption) | (with_reducible refine Below.alloc ?_ ?_ _) | (with_reducible refine Below.drew ?_) | (with_reducible refine Below.setCell ?_ ?_ _) | (with_reducible refine Below.stepB (by assumption) ?_ ?_) | go_size)) hbl, HK3.out.onB (by repeat' (first | (with_reducible exact Below.refl _ _) | (with_reducible assumption) | (with_reducible refine Below.alloc ?_ ?_ _) | (with_reducible refine Below.drew ?_) | (with_reducible refine Below.setCell ?_ ?_ _) | (with_reducible refine Below.stepB (by assumption) ?_ ?_) | go_size)), by simp; omega⟩
  obtain ⟨sd, rfl, HPc, HTc, HCc, HKc, hzc⟩ := hcut
  have hne : w.heap.size ≠ w2.heap.size := by omega
  have p3 : wc.cell? ⟨w2.heap.size, 3, none⟩ = some (.int .i64 m) := HPc.out.cell 3
  have p4 : wc.cell? ⟨w2.heap.size, 4, none⟩ = some (.int .i64 sd) := HPc.out.cell 4
  have p5 : wc.cell? ⟨w2.heap.size, 5, none⟩ = some (.int .i64 0) := HPc.out.cell 5
  have pf := HPc.out.frozen
  have pl := HPc.out.lt
  go_wp2_with fail
  refine (HPK.out (K + 12) 60 _ (by omega) (HCc.out.belowB (B := w.heap.size) (by repeat' (first | (with_reducible exact Below.refl _ _) | (with_reducible assumption) | (with_reducible refine Below.alloc ?_ ?_ _) | (with_reducible refine Below.drew ?_) | (with_reducible refine Below.setCell ?_ ?_ _) | (with_reducible refine Below.stepB (by assumption) ?_ ?_) | go_size)) hbl) (by decide)).mono ?_
  rintro e w5 ⟨u, rfl, u0, u1, hD⟩
  have HT5 := Lib.hid (Blk.keptC (HTc.out.far (p := ⟨w2.heap.size, 5, none⟩) hne _) hD.2 (by omega))
  obtain ⟨rk, HP5⟩ : ∃ rk : Int, Hid (Blk w5 w2.heap.size 29 #[.int .i64 id, .int .i64 x, .int .i64 y, .int .i64 m, .int .i64 sd, .int .i64 rk]) := ⟨_, Blk.keptC (HPc.out.set_ 5 (.int .i64 _)) hD.2 (by omega)⟩
  have HK5 := Lib.hid ((HKc.out.onB (show Below w.heap.size wc _ from by repeat' (first | (with_reducible exact Below.refl _ _) | (with_reducible assumption) | (with_reducible refine Below.alloc ?_ ?_ _) | (with_reducible refine Below.drew ?_) | (with_reducible refine Below.setCell ?_ ?_ _) | (with_reducible refine Below.stepB (by assumption) ?_ ?_) | go_size))).trans1 hD.2)
  have HC5 := Lib.hid hD.1
  have hz5 := hD.2.size
  (try simp at hz5)
  clear hD p3 p4 p5 pf pl
  have p0 : w5.cell? ⟨w2.heap.size, 0, none⟩ = some (.int .i64 id) := HP5.out.cell 0
  have p1 : w5.cell? ⟨w2.heap.size, 1, none⟩ = some (.int .i64 x) := HP5.out.cell 1
  have p2 : w5.cell? ⟨w2.heap.size, 2, none⟩ = some (.int .i64 y) := HP5.out.cell 2
  have p3 : w5.cell? ⟨w2.heap.size, 3, none⟩ = some (.int .i64 m) := HP5.out.cell 3
  have p4 : w5.cell? ⟨w2.heap.size, 4, none⟩ = some (.int .i64 sd) := HP5.out.cell 4
  have p5 : w5.cell? ⟨w2.heap.size, 5, none⟩ = some (.int .i64 rk) := HP5.out.cell 5
  have pl := HP5.out.lt
  by_cases h0 : u = 0
  · subst h0
    skip
    go_wp2_with fail
    refine (HAM.out (K + 14) w5.heap.size 3 3 [0, 999, 1000] _ (by omega) (HC5.out.below (by repeat' (first | (with_reducible exact Below.refl _ _) | (with_reducible assumption) | (with_reducible refine Below.alloc ?_ ?_ _) | (with_reducible refine Below.drew ?_) | (with_reducible refine Below.setCell ?_ ?_ _) | (with_reducible refine Below.stepB (by assumption) ?_ ?_) | go_size))) ?_ (by omega) (by decide) (by simp) (by simp)).mono ?_
    · exact blk_newC _ (by simp)
    rintro e w6 ⟨z, rfl, hD⟩
    have HT6 := Lib.hid (Blk.keptC (HT5.out.alloc _) hD.2 (by omega))
    have HP6 := Lib.hid (Blk.keptC (HP5.out.alloc _) hD.2 (by omega))
    have HK6 := Lib.hid ((HK5.out.laterB (show Below w5.heap.size w5 _ from by repeat' (first | (with_reducible exact Below.refl _ _) | (with_reducible assumption) | (with_reducible refine Below.alloc ?_ ?_ _) | (with_reducible refine Below.drew ?_) | (with_reducible refine Below.setCell ?_ ?_ _) | (with_reducible refine Below.stepB (by assumption) ?_ ?_) | go_size))).trans1 hD.2)
    have HC6 := Lib.hid hD.1
    have hz6 := hD.2.size
    (try simp at hz6)
    clear hD
    have p0 : w6.cell? ⟨w2.heap.size, 0, none⟩ = some (.int .i64 id) := HP6.out.cell 0
    have t0 : w6.cell? ⟨w.heap.size, 0, none⟩ = some (.int .i64 0) := HT6.out.cell 0
    have p1 : w6.cell? ⟨w2.heap.size, 1, none⟩ = some (.int .i64 x) := HP6.out.cell 1
    have t1 : w6.cell? ⟨w.heap.size, 1, none⟩ = some (.int .i64 0) := HT6.out.cell 1
    have p2 : w6.cell? ⟨w2.heap.size, 2, none⟩ = some (.int .i64 y) := HP6.out.cell 2
    have t2 : w6.cell? ⟨w.heap.size, 2, none⟩ = some (.int .i64 0) := HT6.out.cell 2
    have p3 : w6.cell? ⟨w2.heap.size, 3, none⟩ = some (.int .i64 m) := HP6.out.cell 3
    have t3 : w6.cell? ⟨w.heap.size, 3, none⟩ = some (.int .i64 0) := HT6.out.cell 3
    have p4 : w6.cell? ⟨w2.heap.size, 4, none⟩ = some (.int .i64 sd) := HP6.out.cell 4
    have t4 : w6.cell? ⟨w.heap.size, 4, none⟩ = some (.int .i64 0) := HT6.out.cell 4
    have p5 : w6.cell? ⟨w2.heap.size, 5, none⟩ = some (.int .i64 rk) := HP6.out.cell 5
    have t5 : w6.cell? ⟨w.heap.size, 5, none⟩ = some (.int .i64 0) := HT6.out.cell 5
    have pf := HP6.out.frozen
    have pl := HP6.out.lt
    have tf := HT6.out.frozen
    have tl := HT6.out.lt
    have pz : ∀ v, (w6.setCell ⟨w2.heap.size, 0, none⟩ v).cell? ⟨w2.heap.size, 0, none⟩ = some v := fun v => (HP6.out.set_ 0 v).cell 0
    have HTZ := Lib.hid (HT6.out.far (p := ⟨w2.heap.size, 0, none⟩) hne (.int .i64 z))
    have e0 : ∀ v0 : Value, ((w6.setCell ⟨w2.heap.size, 0, none⟩ (.int .i64 z)).setCell ⟨w.heap.size, 0, none⟩ v0).cell? ⟨w.heap.size, 0, none⟩ = some v0 := fun v0 => (HTZ.out.set_ 0 v0).cell 0
    have e1 : ∀ v0 v1 : Value, (((w6.setCell ⟨w2.heap.size, 0, none⟩ (.int .i64 z)).setCell ⟨w.heap.size, 0, none⟩ v0).setCell ⟨w.heap.size, 1, none⟩ v1).cell? ⟨w.heap.size, 1, none⟩ = some v1 := fun v0 v1 => ((HTZ.out.set_ 0 v0).set_ 1 v1).cell 1
    have e2 : ∀ v0 v1 v2 : Value, ((((w6.setCell ⟨w2.heap.size, 0, none⟩ (.int .i64 z)).setCell ⟨w.heap.size, 0, none⟩ v0).setCell ⟨w.heap.size, 1, none⟩ v1).setCell ⟨w.heap.size, 2, none⟩ v2).cell? ⟨w.heap.size, 2, none⟩ = some v2 := fun v0 v1 v2 => (((HTZ.out.set_ 0 v0).set_ 1 v1).set_ 2 v2).cell 2
    have e3 : ∀ v0 v1 v2 v3 : Value, (((((w6.setCell ⟨w2.heap.size, 0, none⟩ (.int .i64 z)).setCell ⟨w.heap.size, 0, none⟩ v0).setCell ⟨w.heap.size, 1, none⟩ v1).setCell ⟨w.heap.size, 2, none⟩ v2).setCell ⟨w.heap.size, 3, none⟩ v3).cell? ⟨w.heap.size, 3, none⟩ = some v3 := fun v0 v1 v2 v3 => ((((HTZ.out.set_ 0 v0).set_ 1 v1).set_ 2 v2).set_ 3 v3).cell 3
    have e4 : ∀ v0 v1 v2 v3 v4 : Value, ((((((w6.setCell ⟨w2.heap.size, 0, none⟩ (.int .i64 z)).setCell ⟨w.heap.size, 0, none⟩ v0).setCell ⟨w.heap.size, 1, none⟩ v1).setCell ⟨w.heap.size, 2, none⟩ v2).setCell ⟨w.heap.size, 3, none⟩ v3).setCell ⟨w.heap.size, 4, none⟩ v4).cell? ⟨w.heap.size, 4, none⟩ = some v4 := fun v0 v1 v2 v3 v4 => (((((HTZ.out.set_ 0 v0).set_ 1 v1).set_ 2 v2).set_ 3 v3).set_ 4 v4).cell 4
    have e5 : ∀ v0 v1 v2 v3 v4 v5 : Value, (((((((w6.setCell ⟨w2.heap.size, 0, none⟩ (.int .i64 z)).setCell ⟨w.heap.size, 0, none⟩ v0).setCell ⟨w.heap.size, 1, none⟩ v1).setCell ⟨w.heap.size, 2, none⟩ v2).setCell ⟨w.heap.size, 3, none⟩ v3).setCell ⟨w.heap.size, 4, none⟩ v4).setCell ⟨w.heap.size, 5, none⟩ v5).cell? ⟨w.heap.size, 5, none⟩ = some v5 := fun v0 v1 v2 v3 v4 v5 => ((((((HTZ.out.set_ 0 v0).set_ 1 v1).set_ 2 v2).set_ 3 v3).set_ 4 v4).set_ 5 v5).cell 5
    go_wp2
    (try simp only [Exit.inBlock, Exit.then])
    refine bodyPost_ret (by simp [results, Try.results90, go_sem, e0, e1, e2, e3, e4, e5]; try rfl) rfl ?_
    refine ⟨⟨_, _, _, _, _, _⟩, rfl, (HC6.out.belowB (B := w.heap.size) ?_ hbl).more (by omega), HK6.out.onB ?_⟩ <;> repeat' (first | (with_reducible exact Below.refl _ _) | (with_reducible assumption) | (with_reducible refine Below.alloc ?_ ?_ _) | (with_reducible refine Below.drew ?_) | (with_reducible refine Below.setCell ?_ ?_ _) | (with_reducible refine Below.stepB (by assumption) ?_ ?_) | go_size)
  have hu0 : (u == 0) = false := by simpa using h0
  by_cases h1 : u = 1
  · subst h1
    skip
    go_wp2_with fail
    refine (HAM.out (K + 14) w5.heap.size 3 3 [-1, 101, wrap64 (m + 1)] _ (by omega) (HC5.out.below (by repeat' (first | (with_reducible exact Below.refl _ _) | (with_reducible assumption) | (with_reducible refine Below.alloc ?_ ?_ _) | (with_reducible refine Below.drew ?_) | (with_reducible refine Below.setCell ?_ ?_ _) | (with_reducible refine Below.stepB (by assumption) ?_ ?_) | go_size))) ?_ (by omega) (by decide) (by simp) (by simp)).mono ?_
    · exact blk_newC _ (by simp)
    rintro e w6 ⟨z, rfl, hD⟩
    have HT6 := Lib.hid (Blk.keptC (HT5.out.alloc _) hD.2 (by omega))
    have HP6 := Lib.hid (Blk.keptC (HP5.out.alloc _) hD.2 (by omega))
    have HK6 := Lib.hid ((HK5.out.laterB (show Below w5.heap.size w5 _ from by repeat' (first | (with_reducible exact Below.refl _ _) | (with_reducible assumption) | (with_reducible refine Below.alloc ?_ ?_ _) | (with_reducible refine Below.drew ?_) | (with_reducible refine Below.setCell ?_ ?_ _) | (with_reducible refine Below.stepB (by assumption) ?_ ?_) | go_size))).trans1 hD.2)
    have HC6 := Lib.hid hD.1
    have hz6 := hD.2.size
    (try simp at hz6)
    clear hD
    have p0 : w6.cell? ⟨w2.heap.size, 0, none⟩ = some (.int .i64 id) := HP6.out.cell 0
    have t0 : w6.cell? ⟨w.heap.size, 0, none⟩ = some (.int .i64 0) := HT6.out.cell 0
    have p1 : w6.cell? ⟨w2.heap.size, 1, none⟩ = some (.int .i64 x) := HP6.out.cell 1
    have t1 : w6.cell? ⟨w.heap.size, 1, none⟩ = some (.int .i64 0) := HT6.out.cell 1
    have p2 : w6.cell? ⟨w2.heap.size, 2, none⟩ = some (.int .i64 y) := HP6.out.cell 2
    have t2 : w6.cell? ⟨w.heap.size, 2, none⟩ = some (.int .i64 0) := HT6.out.cell 2
    have p3 : w6.cell? ⟨w2.heap.size, 3, none⟩ = some (.int .i64 m) := HP6.out.cell 3
    have t3 : w6.cell? ⟨w.heap.size, 3, none⟩ = some (.int .i64 0) := HT6.out.cell 3
    have p4 : w6.cell? ⟨w2.heap.size, 4, none⟩ = some (.int .i64 sd) := HP6.out.cell 4
    have t4 : w6.cell? ⟨w.heap.size, 4, none⟩ = some (.int .i64 0) := HT6.out.cell 4
    have p5 : w6.cell? ⟨w2.heap.size, 5, none⟩ = some (.int .i64 rk) := HP6.out.cell 5
    have t5 : w6.cell? ⟨w.heap.size, 5, none⟩ = some (.int .i64 0) := HT6.out.cell 5
    have pf := HP6.out.frozen
    have pl := HP6.out.lt
    have tf := HT6.out.frozen
    have tl := HT6.out.lt
    have pz : ∀ v, (w6.setCell ⟨w2.heap.size, 3, none⟩ v).cell? ⟨w2.heap.size, 3, none⟩ = some v := fun v => (HP6.out.set_ 3 v).cell 3
    have HTZ := Lib.hid (HT6.out.far (p := ⟨w2.heap.size, 3, none⟩) hne (.int .i64 z))
    have e0 : ∀ v0 : Value, ((w6.setCell ⟨w2.heap.size, 3, none⟩ (.int .i64 z)).setCell ⟨w.heap.size, 0, none⟩ v0).cell? ⟨w.heap.size, 0, none⟩ = some v0 := fun v0 => (HTZ.out.set_ 0 v0).cell 0
    have e1 : ∀ v0 v1 : Value, (((w6.setCell ⟨w2.heap.size, 3, none⟩ (.int .i64 z)).setCell ⟨w.heap.size, 0, none⟩ v0).setCell ⟨w.heap.size, 1, none⟩ v1).cell? ⟨w.heap.size, 1, none⟩ = some v1 := fun v0 v1 => ((HTZ.out.set_ 0 v0).set_ 1 v1).cell 1
    have e2 : ∀ v0 v1 v2 : Value, ((((w6.setCell ⟨w2.heap.size, 3, none⟩ (.int .i64 z)).setCell ⟨w.heap.size, 0, none⟩ v0).setCell ⟨w.heap.size, 1, none⟩ v1).setCell ⟨w.heap.size, 2, none⟩ v2).cell? ⟨w.heap.size, 2, none⟩ = some v2 := fun v0 v1 v2 => (((HTZ.out.set_ 0 v0).set_ 1 v1).set_ 2 v2).cell 2
    have e3 : ∀ v0 v1 v2 v3 : Value, (((((w6.setCell ⟨w2.heap.size, 3, none⟩ (.int .i64 z)).setCell ⟨w.heap.size, 0, none⟩ v0).setCell ⟨w.heap.size, 1, none⟩ v1).setCell ⟨w.heap.size, 2, none⟩ v2).setCell ⟨w.heap.size, 3, none⟩ v3).cell? ⟨w.heap.size, 3, none⟩ = some v3 := fun v0 v1 v2 v3 => ((((HTZ.out.set_ 0 v0).set_ 1 v1).set_ 2 v2).set_ 3 v3).cell 3
    have e4 : ∀ v0 v1 v2 v3 v4 : Value, ((((((w6.setCell ⟨w2.heap.size, 3, none⟩ (.int .i64 z)).setCell ⟨w.heap.size, 0, none⟩ v0).setCell ⟨w.heap.size, 1, none⟩ v1).setCell ⟨w.heap.size, 2, none⟩ v2).setCell ⟨w.heap.size, 3, none⟩ v3).setCell ⟨w.heap.size, 4, none⟩ v4).cell? ⟨w.heap.size, 4, none⟩ = some v4 := fun v0 v1 v2 v3 v4 => (((((HTZ.out.set_ 0 v0).set_ 1 v1).set_ 2 v2).set_ 3 v3).set_ 4 v4).cell 4
    have e5 : ∀ v0 v1 v2 v3 v4 v5 : Value, (((((((w6.setCell ⟨w2.heap.size, 3, none⟩ (.int .i64 z)).setCell ⟨w.heap.size, 0, none⟩ v0).setCell ⟨w.heap.size, 1, none⟩ v1).setCell ⟨w.heap.size, 2, none⟩ v2).setCell ⟨w.heap.size, 3, none⟩ v3).setCell ⟨w.heap.size, 4, none⟩ v4).setCell ⟨w.heap.size, 5, none⟩ v5).cell? ⟨w.heap.size, 5, none⟩ = some v5 := fun v0 v1 v2 v3 v4 v5 => ((((((HTZ.out.set_ 0 v0).set_ 1 v1).set_ 2 v2).set_ 3 v3).set_ 4 v4).set_ 5 v5).cell 5
    go_wp2
    (try simp only [Exit.inBlock, Exit.then])
    refine bodyPost_ret (by simp [results, Try.results90, go_sem, e0, e1, e2, e3, e4, e5]; try rfl) rfl ?_
    refine ⟨⟨_, _, _, _, _, _⟩, rfl, (HC6.out.belowB (B := w.heap.size) ?_ hbl).more (by omega), HK6.out.onB ?_⟩ <;> repeat' (first | (with_reducible exact Below.refl _ _) | (with_reducible assumption) | (with_reducible refine Below.alloc ?_ ?_ _) | (with_reducible refine Below.drew ?_) | (with_reducible refine Below.setCell ?_ ?_ _) | (with_reducible refine Below.stepB (by assumption) ?_ ?_) | go_size)
  have hu1 : (u == 1) = false := by simpa using h1
  by_cases h2 : u = 2
  · subst h2
    skip
    go_wp2_with fail
    refine (HAM.out (K + 14) w5.heap.size 3 3 [-1, 101, wrap64 (sd + 1)] _ (by omega) (HC5.out.below (by repeat' (first | (with_reducible exact Below.refl _ _) | (with_reducible assumption) | (with_reducible refine Below.alloc ?_ ?_ _) | (with_reducible refine Below.drew ?_) | (with_reducible refine Below.setCell ?_ ?_ _) | (with_reducible refine Below.stepB (by assumption) ?_ ?_) | go_size))) ?_ (by omega) (by decide) (by simp) (by simp)).mono ?_
    · exact blk_newC _ (by simp)
    rintro e w6 ⟨z, rfl, hD⟩
    have HT6 := Lib.hid (Blk.keptC (HT5.out.alloc _) hD.2 (by omega))
    have HP6 := Lib.hid (Blk.keptC (HP5.out.alloc _) hD.2 (by omega))
    have HK6 := Lib.hid ((HK5.out.laterB (show Below w5.heap.size w5 _ from by repeat' (first | (with_reducible exact Below.refl _ _) | (with_reducible assumption) | (with_reducible refine Below.alloc ?_ ?_ _) | (with_reducible refine Below.drew ?_) | (with_reducible refine Below.setCell ?_ ?_ _) | (with_reducible refine Below.stepB (by assumption) ?_ ?_) | go_size))).trans1 hD.2)
    have HC6 := Lib.hid hD.1
    have hz6 := hD.2.size
    (try simp at hz6)
    clear hD
    have p0 : w6.cell? ⟨w2.heap.size, 0, none⟩ = some (.int .i64 id) := HP6.out.cell 0
    have t0 : w6.cell? ⟨w.heap.size, 0, none⟩ = some (.int .i64 0) := HT6.out.cell 0
    have p1 : w6.cell? ⟨w2.heap.size, 1, none⟩ = some (.int .i64 x) := HP6.out.cell 1
    have t1 : w6.cell? ⟨w.heap.size, 1, none⟩ = some (.int .i64 0) := HT6.out.cell 1
    have p2 : w6.cell? ⟨w2.heap.size, 2, none⟩ = some (.int .i64 y) := HP6.out.cell 2
    have t2 : w6.cell? ⟨w.heap.size, 2, none⟩ = some (.int .i64 0) := HT6.out.cell 2
    have p3 : w6.cell? ⟨w2.heap.size, 3, none⟩ = some (.int .i64 m) := HP6.out.cell 3
    have t3 : w6.cell? ⟨w.heap.size, 3, none⟩ = some (.int .i64 0) := HT6.out.cell 3
    have p4 : w6.cell? ⟨w2.heap.size, 4, none⟩ = some (.int .i64 sd) := HP6.out.cell 4
    have t4 : w6.cell? ⟨w.heap.size, 4, none⟩ = some (.int .i64 0) := HT6.out.cell 4
    have p5 : w6.cell? ⟨w2.heap.size, 5, none⟩ = some (.int .i64 rk) := HP6.out.cell 5
    have t5 : w6.cell? ⟨w.heap.size, 5, none⟩ = some (.int .i64 0) := HT6.out.cell 5
    have pf := HP6.out.frozen
    have pl := HP6.out.lt
    have tf := HT6.out.frozen
    have tl := HT6.out.lt
    have pz : ∀ v, (w6.setCell ⟨w2.heap.size, 4, none⟩ v).cell? ⟨w2.heap.size, 4, none⟩ = some v := fun v => (HP6.out.set_ 4 v).cell 4
    have HTZ := Lib.hid (HT6.out.far (p := ⟨w2.heap.size, 4, none⟩) hne (.int .i64 z))
    have e0 : ∀ v0 : Value, ((w6.setCell ⟨w2.heap.size, 4, none⟩ (.int .i64 z)).setCell ⟨w.heap.size, 0, none⟩ v0).cell? ⟨w.heap.size, 0, none⟩ = some v0 := fun v0 => (HTZ.out.set_ 0 v0).cell 0
    have e1 : ∀ v0 v1 : Value, (((w6.setCell ⟨w2.heap.size, 4, none⟩ (.int .i64 z)).setCell ⟨w.heap.size, 0, none⟩ v0).setCell ⟨w.heap.size, 1, none⟩ v1).cell? ⟨w.heap.size, 1, none⟩ = some v1 := fun v0 v1 => ((HTZ.out.set_ 0 v0).set_ 1 v1).cell 1
    have e2 : ∀ v0 v1 v2 : Value, ((((w6.setCell ⟨w2.heap.size, 4, none⟩ (.int .i64 z)).setCell ⟨w.heap.size, 0, none⟩ v0).setCell ⟨w.heap.size, 1, none⟩ v1).setCell ⟨w.heap.size, 2, none⟩ v2).cell? ⟨w.heap.size, 2, none⟩ = some v2 := fun v0 v1 v2 => (((HTZ.out.set_ 0 v0).set_ 1 v1).set_ 2 v2).cell 2
    have e3 : ∀ v0 v1 v2 v3 : Value, (((((w6.setCell ⟨w2.heap.size, 4, none⟩ (.int .i64 z)).setCell ⟨w.heap.size, 0, none⟩ v0).setCell ⟨w.heap.size, 1, none⟩ v1).setCell ⟨w.heap.size, 2, none⟩ v2).setCell ⟨w.heap.size, 3, none⟩ v3).cell? ⟨w.heap.size, 3, none⟩ = some v3 := fun v0 v1 v2 v3 => ((((HTZ.out.set_ 0 v0).set_ 1 v1).set_ 2 v2).set_ 3 v3).cell 3
    have e4 : ∀ v0 v1 v2 v3 v4 : Value, ((((((w6.setCell ⟨w2.heap.size, 4, none⟩ (.int .i64 z)).setCell ⟨w.heap.size, 0, none⟩ v0).setCell ⟨w.heap.size, 1, none⟩ v1).setCell ⟨w.heap.size, 2, none⟩ v2).setCell ⟨w.heap.size, 3, none⟩ v3).setCell ⟨w.heap.size, 4, none⟩ v4).cell? ⟨w.heap.size, 4, none⟩ = some v4 := fun v0 v1 v2 v3 v4 => (((((HTZ.out.set_ 0 v0).set_ 1 v1).set_ 2 v2).set_ 3 v3).set_ 4 v4).cell 4
    have e5 : ∀ v0 v1 v2 v3 v4 v5 : Value, (((((((w6.setCell ⟨w2.heap.size, 4, none⟩ (.int .i64 z)).setCell ⟨w.heap.size, 0, none⟩ v0).setCell ⟨w.heap.size, 1, none⟩ v1).setCell ⟨w.heap.size, 2, none⟩ v2).setCell ⟨w.heap.size, 3, none⟩ v3).setCell ⟨w.heap.size, 4, none⟩ v4).setCell ⟨w.heap.size, 5, none⟩ v5).cell? ⟨w.heap.size, 5, none⟩ = some v5 := fun v0 v1 v2 v3 v4 v5 => ((((((HTZ.out.set_ 0 v0).set_ 1 v1).set_ 2 v2).set_ 3 v3).set_ 4 v4).set_ 5 v5).cell 5
    go_wp2
    (try simp only [Exit.inBlock, Exit.then])
    refine bodyPost_ret (by simp [results, Try.results90, go_sem, e0, e1, e2, e3, e4, e5]; try rfl) rfl ?_
    refine ⟨⟨_, _, _, _, _, _⟩, rfl, (HC6.out.belowB (B := w.heap.size) ?_ hbl).more (by omega), HK6.out.onB ?_⟩ <;> repeat' (first | (with_reducible exact Below.refl _ _) | (with_reducible assumption) | (with_reducible refine Below.alloc ?_ ?_ _) | (with_reducible refine Below.drew ?_) | (with_reducible refine Below.setCell ?_ ?_ _) | (with_reducible refine Below.stepB (by assumption) ?_ ?_) | go_size)
  have hu2 : (u == 2) = false := by simpa using h2
  by_cases h3 : u = 3
  · subst h3
    skip
    go_wp2_with fail
    refine (HAM.out (K + 14) w5.heap.size 3 3 [-1, 101, wrap64 (rk + 1)] _ (by omega) (HC5.out.below (by repeat' (first | (with_reducible exact Below.refl _ _) | (with_reducible assumption) | (with_reducible refine Below.alloc ?_ ?_ _) | (with_reducible refine Below.drew ?_) | (with_reducible refine Below.setCell ?_ ?_ _) | (with_reducible refine Below.stepB (by assumption) ?_ ?_) | go_size))) ?_ (by omega) (by decide) (by simp) (by simp)).mono ?_
    · exact blk_newC _ (by simp)
    rintro e w6 ⟨z, rfl, hD⟩
    have HT6 := Lib.hid (Blk.keptC (HT5.out.alloc _) hD.2 (by omega))
    have HP6 := Lib.hid (Blk.keptC (HP5.out.alloc _) hD.2 (by omega))
    have HK6 := Lib.hid ((HK5.out.laterB (show Below w5.heap.size w5 _ from by repeat' (first | (with_reducible exact Below.refl _ _) | (with_reducible assumption) | (with_reducible refine Below.alloc ?_ ?_ _) | (with_reducible refine Below.drew ?_) | (with_reducible refine Below.setCell ?_ ?_ _) | (with_reducible refine Below.stepB (by assumption) ?_ ?_) | go_size))).trans1 hD.2)
    have HC6 := Lib.hid hD.1
    have hz6 := hD.2.size
    (try simp at hz6)
    clear hD
    have p0 : w6.cell? ⟨w2.heap.size, 0, none⟩ = some (.int .i64 id) := HP6.out.cell 0
    have t0 : w6.cell? ⟨w.heap.size, 0, none⟩ = some (.int .i64 0) := HT6.out.cell 0
    have p1 : w6.cell? ⟨w2.heap.size, 1, none⟩ = some (.int .i64 x) := HP6.out.cell 1
    have t1 : w6.cell? ⟨w.heap.size, 1, none⟩ = some (.int .i64 0) := HT6.out.cell 1
    have p2 : w6.cell? ⟨w2.heap.size, 2, none⟩ = some (.int .i64 y) := HP6.out.cell 2
    have t2 : w6.cell? ⟨w.heap.size, 2, none⟩ = some (.int .i64 0) := HT6.out.cell 2
    have p3 : w6.cell? ⟨w2.heap.size, 3, none⟩ = some (.int .i64 m) := HP6.out.cell 3
    have t3 : w6.cell? ⟨w.heap.size, 3, none⟩ = some (.int .i64 0) := HT6.out.cell 3
    have p4 : w6.cell? ⟨w2.heap.size, 4, none⟩ = some (.int .i64 sd) := HP6.out.cell 4
    have t4 : w6.cell? ⟨w.heap.size, 4, none⟩ = some (.int .i64 0) := HT6.out.cell 4
    have p5 : w6.cell? ⟨w2.heap.size, 5, none⟩ = some (.int .i64 rk) := HP6.out.cell 5
    have t5 : w6.cell? ⟨w.heap.size, 5, none⟩ = some (.int .i64 0) := HT6.out.cell 5
    have pf := HP6.out.frozen
    have pl := HP6.out.lt
    have tf := HT6.out.frozen
    have tl := HT6.out.lt
    have pz : ∀ v, (w6.setCell ⟨w2.heap.size, 5, none⟩ v).cell? ⟨w2.heap.size, 5, none⟩ = some v := fun v => (HP6.out.set_ 5 v).cell 5
    have HTZ := Lib.hid (HT6.out.far (p := ⟨w2.heap.size, 5, none⟩) hne (.int .i64 z))
    have e0 : ∀ v0 : Value, ((w6.setCell ⟨w2.heap.size, 5, none⟩ (.int .i64 z)).setCell ⟨w.heap.size, 0, none⟩ v0).cell? ⟨w.heap.size, 0, none⟩ = some v0 := fun v0 => (HTZ.out.set_ 0 v0).cell 0
    have e1 : ∀ v0 v1 : Value, (((w6.setCell ⟨w2.heap.size, 5, none⟩ (.int .i64 z)).setCell ⟨w.heap.size, 0, none⟩ v0).setCell ⟨w.heap.size, 1, none⟩ v1).cell? ⟨w.heap.size, 1, none⟩ = some v1 := fun v0 v1 => ((HTZ.out.set_ 0 v0).set_ 1 v1).cell 1
    have e2 : ∀ v0 v1 v2 : Value, ((((w6.setCell ⟨w2.heap.size, 5, none⟩ (.int .i64 z)).setCell ⟨w.heap.size, 0, none⟩ v0).setCell ⟨w.heap.size, 1, none⟩ v1).setCell ⟨w.heap.size, 2, none⟩ v2).cell? ⟨w.heap.size, 2, none⟩ = some v2 := fun v0 v1 v2 => (((HTZ.out.set_ 0 v0).set_ 1 v1).set_ 2 v2).cell 2
    have e3 : ∀ v0 v1 v2 v3 : Value, (((((w6.setCell ⟨w2.heap.size, 5, none⟩ (.int .i64 z)).setCell ⟨w.heap.size, 0, none⟩ v0).setCell ⟨w.heap.size, 1, none⟩ v1).setCell ⟨w.heap.size, 2, none⟩ v2).setCell ⟨w.heap.size, 3, none⟩ v3).cell? ⟨w.heap.size, 3, none⟩ = some v3 := fun v0 v1 v2 v3 => ((((HTZ.out.set_ 0 v0).set_ 1 v1).set_ 2 v2).set_ 3 v3).cell 3
    have e4 : ∀ v0 v1 v2 v3 v4 : Value, ((((((w6.setCell ⟨w2.heap.size, 5, none⟩ (.int .i64 z)).setCell ⟨w.heap.size, 0, none⟩ v0).setCell ⟨w.heap.size, 1, none⟩ v1).setCell ⟨w.heap.size, 2, none⟩ v2).setCell ⟨w.heap.size, 3, none⟩ v3).setCell ⟨w.heap.size, 4, none⟩ v4).cell? ⟨w.heap.size, 4, none⟩ = some v4 := fun v0 v1 v2 v3 v4 => (((((HTZ.out.set_ 0 v0).set_ 1 v1).set_ 2 v2).set_ 3 v3).set_ 4 v4).cell 4
    have e5 : ∀ v0 v1 v2 v3 v4 v5 : Value, (((((((w6.setCell ⟨w2.heap.size, 5, none⟩ (.int .i64 z)).setCell ⟨w.heap.size, 0, none⟩ v0).setCell ⟨w.heap.size, 1, none⟩ v1).setCell ⟨w.heap.size, 2, none⟩ v2).setCell ⟨w.heap.size, 3, none⟩ v3).setCell ⟨w.heap.size, 4, none⟩ v4).setCell ⟨w.heap.size, 5, none⟩ v5).cell? ⟨w.heap.size, 5, none⟩ = some v5 := fun v0 v1 v2 v3 v4 v5 => ((((((HTZ.out.set_ 0 v0).set_ 1 v1).set_ 2 v2).set_ 3 v3).set_ 4 v4).set_ 5 v5).cell 5
    go_wp2
    (try simp only [Exit.inBlock, Exit.then])
    refine bodyPost_ret (by simp [results, Try.results90, go_sem, e0, e1, e2, e3, e4, e5]; try rfl) rfl ?_
    refine ⟨⟨_, _, _, _, _, _⟩, rfl, (HC6.out.belowB (B := w.heap.size) ?_ hbl).more (by omega), HK6.out.onB ?_⟩ <;> repeat' (first | (with_reducible exact Below.refl _ _) | (with_reducible assumption) | (with_reducible refine Below.alloc ?_ ?_ _) | (with_reducible refine Below.drew ?_) | (with_reducible refine Below.setCell ?_ ?_ _) | (with_reducible refine Below.stepB (by assumption) ?_ ?_) | go_size)
  have hu3 : (u == 3) = false := by simpa using h3
  have t0 : w5.cell? ⟨w.heap.size, 0, none⟩ = some (.int .i64 0) := HT5.out.cell 0
  have t1 : w5.cell? ⟨w.heap.size, 1, none⟩ = some (.int .i64 0) := HT5.out.cell 1
  have t2 : w5.cell? ⟨w.heap.size, 2, none⟩ = some (.int .i64 0) := HT5.out.cell 2
  have t3 : w5.cell? ⟨w.heap.size, 3, none⟩ = some (.int .i64 0) := HT5.out.cell 3
  have t4 : w5.cell? ⟨w.heap.size, 4, none⟩ = some (.int .i64 0) := HT5.out.cell 4
  have t5 : w5.cell? ⟨w.heap.size, 5, none⟩ = some (.int .i64 0) := HT5.out.cell 5
  have tf := HT5.out.frozen
  have tl := HT5.out.lt
  clear h0 h1 h2 h3
  have e0 : ∀ v0 : Value, (w5.setCell ⟨w.heap.size, 0, none⟩ v0).cell? ⟨w.heap.size, 0, none⟩ = some v0 := fun v0 => (HT5.out.set_ 0 v0).cell 0
  have e1 : ∀ v0 v1 : Value, ((w5.setCell ⟨w.heap.size, 0, none⟩ v0).setCell ⟨w.heap.size, 1, none⟩ v1).cell? ⟨w.heap.size, 1, none⟩ = some v1 := fun v0 v1 => ((HT5.out.set_ 0 v0).set_ 1 v1).cell 1
  have e2 : ∀ v0 v1 v2 : Value, (((w5.setCell ⟨w.heap.size, 0, none⟩ v0).setCell ⟨w.heap.size, 1, none⟩ v1).setCell ⟨w.heap.size, 2, none⟩ v2).cell? ⟨w.heap.size, 2, none⟩ = some v2 := fun v0 v1 v2 => (((HT5.out.set_ 0 v0).set_ 1 v1).set_ 2 v2).cell 2
  have e3 : ∀ v0 v1 v2 v3 : Value, ((((w5.setCell ⟨w.heap.size, 0, none⟩ v0).setCell ⟨w.heap.size, 1, none⟩ v1).setCell ⟨w.heap.size, 2, none⟩ v2).setCell ⟨w.heap.size, 3, none⟩ v3).cell? ⟨w.heap.size, 3, none⟩ = some v3 := fun v0 v1 v2 v3 => ((((HT5.out.set_ 0 v0).set_ 1 v1).set_ 2 v2).set_ 3 v3).cell 3
  have e4 : ∀ v0 v1 v2 v3 v4 : Value, (((((w5.setCell ⟨w.heap.size, 0, none⟩ v0).setCell ⟨w.heap.size, 1, none⟩ v1).setCell ⟨w.heap.size, 2, none⟩ v2).setCell ⟨w.heap.size, 3, none⟩ v3).setCell ⟨w.heap.size, 4, none⟩ v4).cell? ⟨w.heap.size, 4, none⟩ = some v4 := fun v0 v1 v2 v3 v4 => (((((HT5.out.set_ 0 v0).set_ 1 v1).set_ 2 v2).set_ 3 v3).set_ 4 v4).cell 4
  have e5 : ∀ v0 v1 v2 v3 v4 v5 : Value, ((((((w5.setCell ⟨w.heap.size, 0, none⟩ v0).setCell ⟨w.heap.size, 1, none⟩ v1).setCell ⟨w.heap.size, 2, none⟩ v2).setCell ⟨w.heap.size, 3, none⟩ v3).setCell ⟨w.heap.size, 4, none⟩ v4).setCell ⟨w.heap.size, 5, none⟩ v5).cell? ⟨w.heap.size, 5, none⟩ = some v5 := fun v0 v1 v2 v3 v4 v5 => ((((((HT5.out.set_ 0 v0).set_ 1 v1).set_ 2 v2).set_ 3 v3).set_ 4 v4).set_ 5 v5).cell 5
  go_wp2
  (try simp only [Exit.inBlock, Exit.then])
  refine bodyPost_ret (by simp [results, Try.results90, go_sem, e0, e1, e2, e3, e4, e5]; try rfl) rfl ?_
  refine ⟨⟨_, _, _, _, _, _⟩, rfl, (HC5.out.belowB (B := w.heap.size) ?_ hbl).more (by omega), HK5.out.onB ?_⟩ <;> repeat' (first | (with_reducible exact Below.refl _ _) | (with_reducible assumption) | (with_reducible refine Below.alloc ?_ ?_ _) | (with_reducible refine Below.drew ?_) | (with_reducible refine Below.setCell ?_ ?_ _) | (with_reducible refine Below.stepB (by assumption) ?_ ?_) | go_size)
end Go.Proofs.Ytfecepjdjikenaa
