/- Contracts: the draw of an edit step. -/
import Derived.Test.YtbgpmbaonjehbaaCur
import Derived.Test.YtbgpmbaonjehbaaEdA
namespace Go.Proofs.Ytbgpmbaonjehbaa
open Go.RowKit
theorem of_any (b : Nat) (A : Option Addr) (n c K : Nat) (g m c2 : Nat) (ls : List (List UInt8)) (w : World) (h : CurS w b A n c K) (hK : K ≤ 999990) (hn : n ≤ 9223372036854775807) (hB : Blk w g 9 (ls.map (fun s => Value.string ⟨s.toArray⟩)).toArray) (hg : g ≠ b) (hm0 : 0 < m) (hm : m ≤ ls.length) (hl : ls.length ≤ 1000) (hs : ∀ s, s ∈ ls → s.length ≤ 100) :
    Calls Try.prog 51 #[.pointer (some ⟨b, 0, none⟩), .slice (some ⟨g, 0, none⟩) m c2] w fun e w' => ∃ s : List UInt8, e = .returned (.string ⟨s.toArray⟩) ∧ s.length ≤ 100 ∧ Drew w b A n c (K + 2) w' := by
  have HP := Lib.hid (pick_any b A n c K m w h hK hn (by omega))
  have HB := Lib.hid hB
  have HSH := Lib.hid hs
  clear h hB hs
  go_enter Try.func51, Try.ntmps51
  go_wp2_with fail
  refine HP.out.mono ?_
  rintro e w1 ⟨x, rfl, x0, x1, hD⟩
  have HD := Lib.hid hD
  have HB1 := Lib.hid (HB.out.keptC hD.2 hg)
  clear hD
  obtain ⟨i, rfl⟩ : ∃ i : Nat, x = i := ⟨x.toNat, by omega⟩
  have him : i < m := by omega
  have hgl := HB1.out.lt
  have hc : w1.cell? ⟨g, i, none⟩ = some (.string ⟨(ls.getD i []).toArray⟩) := by
    rw [HB1.out.cell]
    simp [List.getD, show i < ls.length by omega]
  have HZ : Hid ((ls.getD i []).length ≤ 100) := HSH.out _ (by simp [List.getD, show i < ls.length by omega])
  generalize ls.getD i [] = z at hc HZ
  clear x1
  go_wp2
  go_ret
  exact ⟨z, rfl, HZ.out, HD.out⟩
theorem l1Least3_any (x : Int) (w : World) : Calls Try.prog 50 #[.int .i64 x, .int .i64 3] w fun e w' => ∃ r : Int, e = .returned (.int .i64 r) ∧ r ≤ 3 ∧ w = w' := by
  by_cases h : x < 3
  · go_enter Try.func50, Try.ntmps50
    go_wp2
    go_ret
    exact ⟨x, rfl, by omega, rfl⟩
  · go_enter Try.func50, Try.ntmps50
    go_wp2
    go_ret
    exact ⟨3, rfl, by omega, rfl⟩
theorem l1Most1_any (x : Int) (w : World) (hx : x ≤ 3) : Calls Try.prog 49 #[.int .i64 1, .int .i64 x] w fun e w' => ∃ r : Int, e = .returned (.int .i64 r) ∧ r ≤ 3 ∧ w = w' := by
  by_cases h : 1 > x
  · go_enter Try.func49, Try.ntmps49
    go_wp2
    go_ret
    exact ⟨1, rfl, by omega, rfl⟩
  · go_enter Try.func49, Try.ntmps49
    go_wp2
    go_ret
    exact ⟨x, rfl, hx, rfl⟩
set_option maxRecDepth 100000 in
set_option maxHeartbeats 4000000 in
theorem editStep_any (b : Nat) (A : Option Addr) (n c K : Nat) (marks : Int) (w : World) (h : CurS w b A n c K) (hK : K ≤ 999900) (hn : n ≤ 9223372036854775807) :
    Calls Try.prog 35 #[.pointer (some ⟨b, 0, none⟩), .int .i64 marks] w fun e w' => ∃ s : ES, e = .returned (.agg #[.int .i64 s.kind, .int .i64 s.mark, .int .i64 s.by_, .string ⟨s.reason.toArray⟩]) ∧ Drew w b A n c (K + 12) w' := by
  have HPK := Lib.hid (fun K' (m : Int) W (hK : K' ≤ 999990) (hC : CurS W b A n c K') (hm : m ≤ 100000) => pick_any b A n c K' m W hC hK hn hm)
  have HAM := Lib.hid (fun K' g m c2 ls W (hK : K' ≤ 999990) (hC : CurS W b A n c K') hB hg hm0 hm hl => among_any b A n c K' g m c2 ls W hC hK hn hB hg hm0 hm hl)
  have HOF := Lib.hid (fun K' g m c2 ls W (hK : K' ≤ 999990) (hC : CurS W b A n c K') hB hg hm0 hm hl hs => of_any b A n c K' g m c2 ls W hC hK hn hB hg hm0 hm hl hs)
  have HC := Lib.hid h
  have hbl := h.lt
  clear h
  go_enter Try.func35, Try.ntmps35
  go_wp2_with fail
  refine (HAM.out K (w.heap.size + 1) 7 7 [0, 1, 2, 2, 2, 3, 3] _ (by omega) (HC.out.below (by repeat' (first | (with_reducible exact Below.refl _ _) | (with_reducible assumption) | (with_reducible refine Below.alloc ?_ ?_ _) | (with_reducible refine Below.drew ?_) | (with_reducible refine Below.setCell ?_ ?_ _) | (with_reducible refine Below.stepB (by assumption) ?_ ?_) | go_size))) ?_ (by omega) (by decide) (by decide) (by decide)).mono ?_
  · exact blk_newC _ (by simp)
  rintro e w1 ⟨kd, rfl, hD⟩
  have HT1 := Lib.hid (Blk.keptC ((blk_newC (g := w.heap.size) (t := 26) (cs := #[.int .i64 0, .int .i64 0, .int .i64 0, .string ⟨#[]⟩]) w rfl).alloc _) hD.2 (by omega))
  have HK1 := Lib.hid (((Kept.refl w (some ⟨b, 0, none⟩) 1).laterB (show Below w.heap.size w _ from by repeat' (first | (with_reducible exact Below.refl _ _) | (with_reducible assumption) | (with_reducible refine Below.alloc ?_ ?_ _) | (with_reducible refine Below.drew ?_) | (with_reducible refine Below.setCell ?_ ?_ _) | (with_reducible refine Below.stepB (by assumption) ?_ ?_) | go_size))).trans1 hD.2)
  have HC1 := Lib.hid hD.1
  have hz1 := hD.2.size
  (try simp at hz1)
  clear hD
  go_wp2_with (go_at_call 50; refine (l1Least3_any _ _).mono ?_; rintro e w' ⟨r, rfl, hr, rfl⟩)
  refine (l1Most1_any r _ hr).mono ?_
  rintro e w' ⟨r2, rfl, hr2, rfl⟩
  go_wp2_with fail
  refine (HPK.out (K + 2) r2 _ (by omega) HC1.out (by omega)).mono ?_
  rintro e w2 ⟨mk, rfl, -, -, hD⟩
  have HT2 := Lib.hid (Blk.keptC HT1.out hD.2 (by omega))
  have HK2 := Lib.hid (HK1.out.trans1 hD.2)
  have HC2 := Lib.hid hD.1
  have hz2 := hD.2.size
  (try simp at hz2)
  clear hD hr hr2
  go_wp2_with fail
  refine (HOF.out (K + 4) w2.heap.size 4 4 [[115, 112, 105, 107, 101], [102, 105, 115, 104], [110, 111, 105, 115, 101], [119, 114, 101, 99, 107]] _ (by omega) (HC2.out.below (by repeat' (first | (with_reducible exact Below.refl _ _) | (with_reducible assumption) | (with_reducible refine Below.alloc ?_ ?_ _) | (with_reducible refine Below.drew ?_) | (with_reducible refine Below.setCell ?_ ?_ _) | (with_reducible refine Below.stepB (by assumption) ?_ ?_) | go_size))) ?_ (by omega) (by decide) (by decide) (by decide) (by decide)).mono ?_
  · exact blk_newC _ (by simp)
  rintro e w3 ⟨st, rfl, hst, hD⟩
  have HT3 := Lib.hid (Blk.keptC (HT2.out.alloc _) hD.2 (by omega))
  have HK3 := Lib.hid ((HK2.out.laterB (show Below w2.heap.size w2 _ from by repeat' (first | (with_reducible exact Below.refl _ _) | (with_reducible assumption) | (with_reducible refine Below.alloc ?_ ?_ _) | (with_reducible refine Below.drew ?_) | (with_reducible refine Below.setCell ?_ ?_ _) | (with_reducible refine Below.stepB (by assumption) ?_ ?_) | go_size))).trans1 hD.2)
  have HC3 := Lib.hid hD.1
  have hz3 := hD.2.size
  (try simp at hz3)
  clear hD
  have HP3 := Lib.hid (blk_newC (g := w3.heap.size) (t := 26) (cs := #[.int .i64 kd, .int .i64 mk, .int .i64 0, .string ⟨st.toArray⟩]) w3 rfl)
  have hne : w.heap.size ≠ w3.heap.size := by omega
  by_cases k2 : kd = 2
  · have e2 : (kd == 2) = true := beq_iff_eq.2 k2
    have e3 : (kd == 3) = false := by rw [k2]; rfl
    clear k2
    go_wp2_with fail
    refine (HAM.out (K + 6) (w3.heap.size + 1) 5 5 [-100, -1, 5, 100, 100] _ (by omega) (HC3.out.below (by repeat' (first | (with_reducible exact Below.refl _ _) | (with_reducible assumption) | (with_reducible refine Below.alloc ?_ ?_ _) | (with_reducible refine Below.drew ?_) | (with_reducible refine Below.setCell ?_ ?_ _) | (with_reducible refine Below.stepB (by assumption) ?_ ?_) | go_size))) ?_ (by omega) (by decide) (by decide) (by decide)).mono ?_
    · exact blk_newC _ (by simp)
    rintro e w4 ⟨y, rfl, hD⟩
    have HT4 := Lib.hid (Blk.keptC ((HT3.out.alloc _).alloc _) hD.2 (by omega))
    have HP4 := Lib.hid (Blk.keptC (HP3.out.alloc _) hD.2 (by omega))
    have HK4 := Lib.hid ((HK3.out.laterB (show Below w3.heap.size w3 _ from by repeat' (first | (with_reducible exact Below.refl _ _) | (with_reducible assumption) | (with_reducible refine Below.alloc ?_ ?_ _) | (with_reducible refine Below.drew ?_) | (with_reducible refine Below.setCell ?_ ?_ _) | (with_reducible refine Below.stepB (by assumption) ?_ ?_) | go_size))).trans1 hD.2)
    have HC4 := Lib.hid hD.1
    have hz4 := hD.2.size
    (try simp at hz4)
    clear hD
    have p2 : w4.cell? ⟨w3.heap.size, 2, none⟩ = some (.int .i64 0) := HP4.out.cell 2
    have pf := HP4.out.frozen
    have pl := HP4.out.lt
    go_wp2_with fail
    refine (HPK.out (K + 8) 120 _ (by omega) (((HC4.out.belowB (B := w.heap.size) (by repeat' (first | (with_reducible exact Below.refl _ _) | (with_reducible assumption) | (with_reducible refine Below.alloc ?_ ?_ _) | (with_reducible refine Below.drew ?_) | (with_reducible refine Below.setCell ?_ ?_ _) | (with_reducible refine Below.stepB (by assumption) ?_ ?_) | go_size)) hbl)).more (by omega)) (by decide)).mono ?_
    rintro e w6 ⟨u, rfl, u0, u1, hD⟩
    have HT6 := Lib.hid (Blk.keptC (HT4.out.far (p := ⟨w3.heap.size, 2, none⟩) hne (.int .i64 y)) hD.2 (by omega))
    have HP6 := Lib.hid (Blk.keptC (HP4.out.set_ 2 (.int .i64 y)) hD.2 (by omega))
    have HK6 := Lib.hid (Kept.trans1 (HK4.out.onB (by repeat' (first | (with_reducible exact Below.refl _ _) | (with_reducible assumption) | (with_reducible refine Below.alloc ?_ ?_ _) | (with_reducible refine Below.drew ?_) | (with_reducible refine Below.setCell ?_ ?_ _) | (with_reducible refine Below.stepB (by assumption) ?_ ?_) | go_size))) hD.2)
    have HC6 := Lib.hid hD.1
    have hz6 := hD.2.size
    (try simp at hz6)
    clear hD p2 pf pl
    have p0 : w6.cell? ⟨w3.heap.size, 0, none⟩ = some (.int .i64 kd) := HP6.out.cell 0
    have t0 : w6.cell? ⟨w.heap.size, 0, none⟩ = some (.int .i64 0) := HT6.out.cell 0
    have p1 : w6.cell? ⟨w3.heap.size, 1, none⟩ = some (.int .i64 mk) := HP6.out.cell 1
    have t1 : w6.cell? ⟨w.heap.size, 1, none⟩ = some (.int .i64 0) := HT6.out.cell 1
    have p2 : w6.cell? ⟨w3.heap.size, 2, none⟩ = some (.int .i64 y) := HP6.out.cell 2
    have t2 : w6.cell? ⟨w.heap.size, 2, none⟩ = some (.int .i64 0) := HT6.out.cell 2
    have p3 : w6.cell? ⟨w3.heap.size, 3, none⟩ = some (.string ⟨st.toArray⟩) := HP6.out.cell 3
    have t3 : w6.cell? ⟨w.heap.size, 3, none⟩ = some (.string ⟨#[]⟩) := HT6.out.cell 3
    have pf := HP6.out.frozen
    have pl := HP6.out.lt
    have tf := HT6.out.frozen
    have tl := HT6.out.lt
    by_cases h0 : u = 0
    · subst h0
      skip
      go_wp2_with fail
      refine (HAM.out (K + 10) w6.heap.size 2 2 [-1, 4] _ (by omega) (HC6.out.below (by repeat' (first | (with_reducible exact Below.refl _ _) | (with_reducible assumption) | (with_reducible refine Below.alloc ?_ ?_ _) | (with_reducible refine Below.drew ?_) | (with_reducible refine Below.setCell ?_ ?_ _) | (with_reducible refine Below.stepB (by assumption) ?_ ?_) | go_size))) ?_ (by omega) (by decide) (by simp) (by simp)).mono ?_
      · exact blk_newC _ (by simp)
      rintro e w7 ⟨z, rfl, hD⟩
      have HT7 := Lib.hid (Blk.keptC (HT6.out.alloc _) hD.2 (by omega))
      have HP7 := Lib.hid (Blk.keptC (HP6.out.alloc _) hD.2 (by omega))
      have HK7 := Lib.hid ((HK6.out.laterB (show Below w6.heap.size w6 _ from by repeat' (first | (with_reducible exact Below.refl _ _) | (with_reducible assumption) | (with_reducible refine Below.alloc ?_ ?_ _) | (with_reducible refine Below.drew ?_) | (with_reducible refine Below.setCell ?_ ?_ _) | (with_reducible refine Below.stepB (by assumption) ?_ ?_) | go_size))).trans1 hD.2)
      have HC7 := Lib.hid hD.1
      have hz7 := hD.2.size
      (try simp at hz7)
      clear hD p0 p1 p2 p3 t0 t1 t2 t3 tf tl pf pl
      have p0 : w7.cell? ⟨w3.heap.size, 0, none⟩ = some (.int .i64 kd) := HP7.out.cell 0
      have t0 : w7.cell? ⟨w.heap.size, 0, none⟩ = some (.int .i64 0) := HT7.out.cell 0
      have p1 : w7.cell? ⟨w3.heap.size, 1, none⟩ = some (.int .i64 mk) := HP7.out.cell 1
      have t1 : w7.cell? ⟨w.heap.size, 1, none⟩ = some (.int .i64 0) := HT7.out.cell 1
      have p2 : w7.cell? ⟨w3.heap.size, 2, none⟩ = some (.int .i64 y) := HP7.out.cell 2
      have t2 : w7.cell? ⟨w.heap.size, 2, none⟩ = some (.int .i64 0) := HT7.out.cell 2
      have p3 : w7.cell? ⟨w3.heap.size, 3, none⟩ = some (.string ⟨st.toArray⟩) := HP7.out.cell 3
      have t3 : w7.cell? ⟨w.heap.size, 3, none⟩ = some (.string ⟨#[]⟩) := HT7.out.cell 3
      have pf := HP7.out.frozen
      have pl := HP7.out.lt
      have tf := HT7.out.frozen
      have tl := HT7.out.lt
      have pz : ∀ v, (w7.setCell ⟨w3.heap.size, 0, none⟩ v).cell? ⟨w3.heap.size, 0, none⟩ = some v := fun v => (HP7.out.set_ 0 v).cell 0
      have HTZ := Lib.hid (HT7.out.far (p := ⟨w3.heap.size, 0, none⟩) hne (.int .i64 z))
      have e0 : ∀ v0 : Value, ((w7.setCell ⟨w3.heap.size, 0, none⟩ (.int .i64 z)).setCell ⟨w.heap.size, 0, none⟩ v0).cell? ⟨w.heap.size, 0, none⟩ = some v0 := fun v0 => (HTZ.out.set_ 0 v0).cell 0
      have e1 : ∀ v0 v1 : Value, (((w7.setCell ⟨w3.heap.size, 0, none⟩ (.int .i64 z)).setCell ⟨w.heap.size, 0, none⟩ v0).setCell ⟨w.heap.size, 1, none⟩ v1).cell? ⟨w.heap.size, 1, none⟩ = some v1 := fun v0 v1 => ((HTZ.out.set_ 0 v0).set_ 1 v1).cell 1
      have e2 : ∀ v0 v1 v2 : Value, ((((w7.setCell ⟨w3.heap.size, 0, none⟩ (.int .i64 z)).setCell ⟨w.heap.size, 0, none⟩ v0).setCell ⟨w.heap.size, 1, none⟩ v1).setCell ⟨w.heap.size, 2, none⟩ v2).cell? ⟨w.heap.size, 2, none⟩ = some v2 := fun v0 v1 v2 => (((HTZ.out.set_ 0 v0).set_ 1 v1).set_ 2 v2).cell 2
      have e3 : ∀ v0 v1 v2 v3 : Value, (((((w7.setCell ⟨w3.heap.size, 0, none⟩ (.int .i64 z)).setCell ⟨w.heap.size, 0, none⟩ v0).setCell ⟨w.heap.size, 1, none⟩ v1).setCell ⟨w.heap.size, 2, none⟩ v2).setCell ⟨w.heap.size, 3, none⟩ v3).cell? ⟨w.heap.size, 3, none⟩ = some v3 := fun v0 v1 v2 v3 => ((((HTZ.out.set_ 0 v0).set_ 1 v1).set_ 2 v2).set_ 3 v3).cell 3
      go_wp2
      (try simp only [Exit.inBlock, Exit.then])
      refine bodyPost_ret (by simp [results, Try.results35, go_sem, e0, e1, e2, e3]; try rfl) rfl ?_
      refine ⟨⟨_, _, _, _, hst⟩, rfl, (HC7.out.belowB (B := w.heap.size) ?_ hbl).more (by omega), HK7.out.onB ?_⟩ <;> repeat' (first | (with_reducible exact Below.refl _ _) | (with_reducible assumption) | (with_reducible refine Below.alloc ?_ ?_ _) | (with_reducible refine Below.drew ?_) | (with_reducible refine Below.setCell ?_ ?_ _) | (with_reducible refine Below.stepB (by assumption) ?_ ?_) | go_size)
    have hu0 : (u == 0) = false := by simpa using h0
    by_cases h1 : u = 1
    · subst h1
      skip
      go_wp2_with fail
      refine (HAM.out (K + 10) w6.heap.size 2 2 [-1, marks] _ (by omega) (HC6.out.below (by repeat' (first | (with_reducible exact Below.refl _ _) | (with_reducible assumption) | (with_reducible refine Below.alloc ?_ ?_ _) | (with_reducible refine Below.drew ?_) | (with_reducible refine Below.setCell ?_ ?_ _) | (with_reducible refine Below.stepB (by assumption) ?_ ?_) | go_size))) ?_ (by omega) (by decide) (by simp) (by simp)).mono ?_
      · exact blk_newC _ (by simp)
      rintro e w7 ⟨z, rfl, hD⟩
      have HT7 := Lib.hid (Blk.keptC (HT6.out.alloc _) hD.2 (by omega))
      have HP7 := Lib.hid (Blk.keptC (HP6.out.alloc _) hD.2 (by omega))
      have HK7 := Lib.hid ((HK6.out.laterB (show Below w6.heap.size w6 _ from by repeat' (first | (with_reducible exact Below.refl _ _) | (with_reducible assumption) | (with_reducible refine Below.alloc ?_ ?_ _) | (with_reducible refine Below.drew ?_) | (with_reducible refine Below.setCell ?_ ?_ _) | (with_reducible refine Below.stepB (by assumption) ?_ ?_) | go_size))).trans1 hD.2)
      have HC7 := Lib.hid hD.1
      have hz7 := hD.2.size
      (try simp at hz7)
      clear hD p0 p1 p2 p3 t0 t1 t2 t3 tf tl pf pl
      have p0 : w7.cell? ⟨w3.heap.size, 0, none⟩ = some (.int .i64 kd) := HP7.out.cell 0
      have t0 : w7.cell? ⟨w.heap.size, 0, none⟩ = some (.int .i64 0) := HT7.out.cell 0
      have p1 : w7.cell? ⟨w3.heap.size, 1, none⟩ = some (.int .i64 mk) := HP7.out.cell 1
      have t1 : w7.cell? ⟨w.heap.size, 1, none⟩ = some (.int .i64 0) := HT7.out.cell 1
      have p2 : w7.cell? ⟨w3.heap.size, 2, none⟩ = some (.int .i64 y) := HP7.out.cell 2
      have t2 : w7.cell? ⟨w.heap.size, 2, none⟩ = some (.int .i64 0) := HT7.out.cell 2
      have p3 : w7.cell? ⟨w3.heap.size, 3, none⟩ = some (.string ⟨st.toArray⟩) := HP7.out.cell 3
      have t3 : w7.cell? ⟨w.heap.size, 3, none⟩ = some (.string ⟨#[]⟩) := HT7.out.cell 3
      have pf := HP7.out.frozen
      have pl := HP7.out.lt
      have tf := HT7.out.frozen
      have tl := HT7.out.lt
      have pz : ∀ v, (w7.setCell ⟨w3.heap.size, 1, none⟩ v).cell? ⟨w3.heap.size, 1, none⟩ = some v := fun v => (HP7.out.set_ 1 v).cell 1
      have HTZ := Lib.hid (HT7.out.far (p := ⟨w3.heap.size, 1, none⟩) hne (.int .i64 z))
      have e0 : ∀ v0 : Value, ((w7.setCell ⟨w3.heap.size, 1, none⟩ (.int .i64 z)).setCell ⟨w.heap.size, 0, none⟩ v0).cell? ⟨w.heap.size, 0, none⟩ = some v0 := fun v0 => (HTZ.out.set_ 0 v0).cell 0
      have e1 : ∀ v0 v1 : Value, (((w7.setCell ⟨w3.heap.size, 1, none⟩ (.int .i64 z)).setCell ⟨w.heap.size, 0, none⟩ v0).setCell ⟨w.heap.size, 1, none⟩ v1).cell? ⟨w.heap.size, 1, none⟩ = some v1 := fun v0 v1 => ((HTZ.out.set_ 0 v0).set_ 1 v1).cell 1
      have e2 : ∀ v0 v1 v2 : Value, ((((w7.setCell ⟨w3.heap.size, 1, none⟩ (.int .i64 z)).setCell ⟨w.heap.size, 0, none⟩ v0).setCell ⟨w.heap.size, 1, none⟩ v1).setCell ⟨w.heap.size, 2, none⟩ v2).cell? ⟨w.heap.size, 2, none⟩ = some v2 := fun v0 v1 v2 => (((HTZ.out.set_ 0 v0).set_ 1 v1).set_ 2 v2).cell 2
      have e3 : ∀ v0 v1 v2 v3 : Value, (((((w7.setCell ⟨w3.heap.size, 1, none⟩ (.int .i64 z)).setCell ⟨w.heap.size, 0, none⟩ v0).setCell ⟨w.heap.size, 1, none⟩ v1).setCell ⟨w.heap.size, 2, none⟩ v2).setCell ⟨w.heap.size, 3, none⟩ v3).cell? ⟨w.heap.size, 3, none⟩ = some v3 := fun v0 v1 v2 v3 => ((((HTZ.out.set_ 0 v0).set_ 1 v1).set_ 2 v2).set_ 3 v3).cell 3
      go_wp2
      (try simp only [Exit.inBlock, Exit.then])
      refine bodyPost_ret (by simp [results, Try.results35, go_sem, e0, e1, e2, e3]; try rfl) rfl ?_
      refine ⟨⟨_, _, _, _, hst⟩, rfl, (HC7.out.belowB (B := w.heap.size) ?_ hbl).more (by omega), HK7.out.onB ?_⟩ <;> repeat' (first | (with_reducible exact Below.refl _ _) | (with_reducible assumption) | (with_reducible refine Below.alloc ?_ ?_ _) | (with_reducible refine Below.drew ?_) | (with_reducible refine Below.setCell ?_ ?_ _) | (with_reducible refine Below.stepB (by assumption) ?_ ?_) | go_size)
    have hu1 : (u == 1) = false := by simpa using h1
    by_cases h2 : u = 2
    · subst h2
      skip
      go_wp2_with fail
      refine (HAM.out (K + 10) w6.heap.size 4 4 [0, 5, 101, -101] _ (by omega) (HC6.out.below (by repeat' (first | (with_reducible exact Below.refl _ _) | (with_reducible assumption) | (with_reducible refine Below.alloc ?_ ?_ _) | (with_reducible refine Below.drew ?_) | (with_reducible refine Below.setCell ?_ ?_ _) | (with_reducible refine Below.stepB (by assumption) ?_ ?_) | go_size))) ?_ (by omega) (by decide) (by simp) (by simp)).mono ?_
      · exact blk_newC _ (by simp)
      rintro e w7 ⟨z, rfl, hD⟩
      have HT7 := Lib.hid (Blk.keptC (HT6.out.alloc _) hD.2 (by omega))
      have HP7 := Lib.hid (Blk.keptC (HP6.out.alloc _) hD.2 (by omega))
      have HK7 := Lib.hid ((HK6.out.laterB (show Below w6.heap.size w6 _ from by repeat' (first | (with_reducible exact Below.refl _ _) | (with_reducible assumption) | (with_reducible refine Below.alloc ?_ ?_ _) | (with_reducible refine Below.drew ?_) | (with_reducible refine Below.setCell ?_ ?_ _) | (with_reducible refine Below.stepB (by assumption) ?_ ?_) | go_size))).trans1 hD.2)
      have HC7 := Lib.hid hD.1
      have hz7 := hD.2.size
      (try simp at hz7)
      clear hD p0 p1 p2 p3 t0 t1 t2 t3 tf tl pf pl
      have p0 : w7.cell? ⟨w3.heap.size, 0, none⟩ = some (.int .i64 kd) := HP7.out.cell 0
      have t0 : w7.cell? ⟨w.heap.size, 0, none⟩ = some (.int .i64 0) := HT7.out.cell 0
      have p1 : w7.cell? ⟨w3.heap.size, 1, none⟩ = some (.int .i64 mk) := HP7.out.cell 1
      have t1 : w7.cell? ⟨w.heap.size, 1, none⟩ = some (.int .i64 0) := HT7.out.cell 1
      have p2 : w7.cell? ⟨w3.heap.size, 2, none⟩ = some (.int .i64 y) := HP7.out.cell 2
      have t2 : w7.cell? ⟨w.heap.size, 2, none⟩ = some (.int .i64 0) := HT7.out.cell 2
      have p3 : w7.cell? ⟨w3.heap.size, 3, none⟩ = some (.string ⟨st.toArray⟩) := HP7.out.cell 3
      have t3 : w7.cell? ⟨w.heap.size, 3, none⟩ = some (.string ⟨#[]⟩) := HT7.out.cell 3
      have pf := HP7.out.frozen
      have pl := HP7.out.lt
      have tf := HT7.out.frozen
      have tl := HT7.out.lt
      have pz : ∀ v, (w7.setCell ⟨w3.heap.size, 2, none⟩ v).cell? ⟨w3.heap.size, 2, none⟩ = some v := fun v => (HP7.out.set_ 2 v).cell 2
      have HTZ := Lib.hid (HT7.out.far (p := ⟨w3.heap.size, 2, none⟩) hne (.int .i64 z))
      have e0 : ∀ v0 : Value, ((w7.setCell ⟨w3.heap.size, 2, none⟩ (.int .i64 z)).setCell ⟨w.heap.size, 0, none⟩ v0).cell? ⟨w.heap.size, 0, none⟩ = some v0 := fun v0 => (HTZ.out.set_ 0 v0).cell 0
      have e1 : ∀ v0 v1 : Value, (((w7.setCell ⟨w3.heap.size, 2, none⟩ (.int .i64 z)).setCell ⟨w.heap.size, 0, none⟩ v0).setCell ⟨w.heap.size, 1, none⟩ v1).cell? ⟨w.heap.size, 1, none⟩ = some v1 := fun v0 v1 => ((HTZ.out.set_ 0 v0).set_ 1 v1).cell 1
      have e2 : ∀ v0 v1 v2 : Value, ((((w7.setCell ⟨w3.heap.size, 2, none⟩ (.int .i64 z)).setCell ⟨w.heap.size, 0, none⟩ v0).setCell ⟨w.heap.size, 1, none⟩ v1).setCell ⟨w.heap.size, 2, none⟩ v2).cell? ⟨w.heap.size, 2, none⟩ = some v2 := fun v0 v1 v2 => (((HTZ.out.set_ 0 v0).set_ 1 v1).set_ 2 v2).cell 2
      have e3 : ∀ v0 v1 v2 v3 : Value, (((((w7.setCell ⟨w3.heap.size, 2, none⟩ (.int .i64 z)).setCell ⟨w.heap.size, 0, none⟩ v0).setCell ⟨w.heap.size, 1, none⟩ v1).setCell ⟨w.heap.size, 2, none⟩ v2).setCell ⟨w.heap.size, 3, none⟩ v3).cell? ⟨w.heap.size, 3, none⟩ = some v3 := fun v0 v1 v2 v3 => ((((HTZ.out.set_ 0 v0).set_ 1 v1).set_ 2 v2).set_ 3 v3).cell 3
      go_wp2
      (try simp only [Exit.inBlock, Exit.then])
      refine bodyPost_ret (by simp [results, Try.results35, go_sem, e0, e1, e2, e3]; try rfl) rfl ?_
      refine ⟨⟨_, _, _, _, hst⟩, rfl, (HC7.out.belowB (B := w.heap.size) ?_ hbl).more (by omega), HK7.out.onB ?_⟩ <;> repeat' (first | (with_reducible exact Below.refl _ _) | (with_reducible assumption) | (with_reducible refine Below.alloc ?_ ?_ _) | (with_reducible refine Below.drew ?_) | (with_reducible refine Below.setCell ?_ ?_ _) | (with_reducible refine Below.stepB (by assumption) ?_ ?_) | go_size)
    have hu2 : (u == 2) = false := by simpa using h2
    by_cases h3 : u = 3
    · subst h3
      go_wp2_with fail
      refine (HOF.out (K + 10) w6.heap.size 3 3 [[], [65], [97, 98, 99, 100, 101, 102, 103, 104, 105, 106, 107]] _ (by omega) (HC6.out.below (by repeat' (first | (with_reducible exact Below.refl _ _) | (with_reducible assumption) | (with_reducible refine Below.alloc ?_ ?_ _) | (with_reducible refine Below.drew ?_) | (with_reducible refine Below.setCell ?_ ?_ _) | (with_reducible refine Below.stepB (by assumption) ?_ ?_) | go_size))) ?_ (by omega) (by decide) (by simp) (by simp) (by simp)).mono ?_
      · exact blk_newC _ (by simp)
      rintro e w7 ⟨z, rfl, hzs, hD⟩
      have HT7 := Lib.hid (Blk.keptC (HT6.out.alloc _) hD.2 (by omega))
      have HP7 := Lib.hid (Blk.keptC (HP6.out.alloc _) hD.2 (by omega))
      have HK7 := Lib.hid ((HK6.out.laterB (show Below w6.heap.size w6 _ from by repeat' (first | (with_reducible exact Below.refl _ _) | (with_reducible assumption) | (with_reducible refine Below.alloc ?_ ?_ _) | (with_reducible refine Below.drew ?_) | (with_reducible refine Below.setCell ?_ ?_ _) | (with_reducible refine Below.stepB (by assumption) ?_ ?_) | go_size))).trans1 hD.2)
      have HC7 := Lib.hid hD.1
      have hz7 := hD.2.size
      (try simp at hz7)
      clear hD p0 p1 p2 p3 t0 t1 t2 t3 tf tl pf pl
      have p0 : w7.cell? ⟨w3.heap.size, 0, none⟩ = some (.int .i64 kd) := HP7.out.cell 0
      have t0 : w7.cell? ⟨w.heap.size, 0, none⟩ = some (.int .i64 0) := HT7.out.cell 0
      have p1 : w7.cell? ⟨w3.heap.size, 1, none⟩ = some (.int .i64 mk) := HP7.out.cell 1
      have t1 : w7.cell? ⟨w.heap.size, 1, none⟩ = some (.int .i64 0) := HT7.out.cell 1
      have p2 : w7.cell? ⟨w3.heap.size, 2, none⟩ = some (.int .i64 y) := HP7.out.cell 2
      have t2 : w7.cell? ⟨w.heap.size, 2, none⟩ = some (.int .i64 0) := HT7.out.cell 2
      have p3 : w7.cell? ⟨w3.heap.size, 3, none⟩ = some (.string ⟨st.toArray⟩) := HP7.out.cell 3
      have t3 : w7.cell? ⟨w.heap.size, 3, none⟩ = some (.string ⟨#[]⟩) := HT7.out.cell 3
      have pf := HP7.out.frozen
      have pl := HP7.out.lt
      have tf := HT7.out.frozen
      have tl := HT7.out.lt
      have pz : ∀ v, (w7.setCell ⟨w3.heap.size, 3, none⟩ v).cell? ⟨w3.heap.size, 3, none⟩ = some v := fun v => (HP7.out.set_ 3 v).cell 3
      have HTZ := Lib.hid (HT7.out.far (p := ⟨w3.heap.size, 3, none⟩) hne (.string ⟨z.toArray⟩))
      have e0 : ∀ v0 : Value, ((w7.setCell ⟨w3.heap.size, 3, none⟩ (.string ⟨z.toArray⟩)).setCell ⟨w.heap.size, 0, none⟩ v0).cell? ⟨w.heap.size, 0, none⟩ = some v0 := fun v0 => (HTZ.out.set_ 0 v0).cell 0
      have e1 : ∀ v0 v1 : Value, (((w7.setCell ⟨w3.heap.size, 3, none⟩ (.string ⟨z.toArray⟩)).setCell ⟨w.heap.size, 0, none⟩ v0).setCell ⟨w.heap.size, 1, none⟩ v1).cell? ⟨w.heap.size, 1, none⟩ = some v1 := fun v0 v1 => ((HTZ.out.set_ 0 v0).set_ 1 v1).cell 1
      have e2 : ∀ v0 v1 v2 : Value, ((((w7.setCell ⟨w3.heap.size, 3, none⟩ (.string ⟨z.toArray⟩)).setCell ⟨w.heap.size, 0, none⟩ v0).setCell ⟨w.heap.size, 1, none⟩ v1).setCell ⟨w.heap.size, 2, none⟩ v2).cell? ⟨w.heap.size, 2, none⟩ = some v2 := fun v0 v1 v2 => (((HTZ.out.set_ 0 v0).set_ 1 v1).set_ 2 v2).cell 2
      have e3 : ∀ v0 v1 v2 v3 : Value, (((((w7.setCell ⟨w3.heap.size, 3, none⟩ (.string ⟨z.toArray⟩)).setCell ⟨w.heap.size, 0, none⟩ v0).setCell ⟨w.heap.size, 1, none⟩ v1).setCell ⟨w.heap.size, 2, none⟩ v2).setCell ⟨w.heap.size, 3, none⟩ v3).cell? ⟨w.heap.size, 3, none⟩ = some v3 := fun v0 v1 v2 v3 => ((((HTZ.out.set_ 0 v0).set_ 1 v1).set_ 2 v2).set_ 3 v3).cell 3
      go_wp2
      (try simp only [Exit.inBlock, Exit.then])
      refine bodyPost_ret (by simp [results, Try.results35, go_sem, e0, e1, e2, e3]; try rfl) rfl ?_
      refine ⟨⟨_, _, _, _, hzs⟩, rfl, (HC7.out.belowB (B := w.heap.size) ?_ hbl).more (by omega), HK7.out.onB ?_⟩ <;> repeat' (first | (with_reducible exact Below.refl _ _) | (with_reducible assumption) | (with_reducible refine Below.alloc ?_ ?_ _) | (with_reducible refine Below.drew ?_) | (with_reducible refine Below.setCell ?_ ?_ _) | (with_reducible refine Below.stepB (by assumption) ?_ ?_) | go_size)
    have hu3 : (u == 3) = false := by simpa using h3
    clear h0 h1 h2 h3
    have e0 : ∀ v0 : Value, (w6.setCell ⟨w.heap.size, 0, none⟩ v0).cell? ⟨w.heap.size, 0, none⟩ = some v0 := fun v0 => (HT6.out.set_ 0 v0).cell 0
    have e1 : ∀ v0 v1 : Value, ((w6.setCell ⟨w.heap.size, 0, none⟩ v0).setCell ⟨w.heap.size, 1, none⟩ v1).cell? ⟨w.heap.size, 1, none⟩ = some v1 := fun v0 v1 => ((HT6.out.set_ 0 v0).set_ 1 v1).cell 1
    have e2 : ∀ v0 v1 v2 : Value, (((w6.setCell ⟨w.heap.size, 0, none⟩ v0).setCell ⟨w.heap.size, 1, none⟩ v1).setCell ⟨w.heap.size, 2, none⟩ v2).cell? ⟨w.heap.size, 2, none⟩ = some v2 := fun v0 v1 v2 => (((HT6.out.set_ 0 v0).set_ 1 v1).set_ 2 v2).cell 2
    have e3 : ∀ v0 v1 v2 v3 : Value, ((((w6.setCell ⟨w.heap.size, 0, none⟩ v0).setCell ⟨w.heap.size, 1, none⟩ v1).setCell ⟨w.heap.size, 2, none⟩ v2).setCell ⟨w.heap.size, 3, none⟩ v3).cell? ⟨w.heap.size, 3, none⟩ = some v3 := fun v0 v1 v2 v3 => ((((HT6.out.set_ 0 v0).set_ 1 v1).set_ 2 v2).set_ 3 v3).cell 3
    go_wp2
    (try simp only [Exit.inBlock, Exit.then])
    refine bodyPost_ret (by simp [results, Try.results35, go_sem, e0, e1, e2, e3]; try rfl) rfl ?_
    refine ⟨⟨_, _, _, _, hst⟩, rfl, (HC6.out.belowB (B := w.heap.size) ?_ hbl).more (by omega), HK6.out.onB ?_⟩ <;> repeat' (first | (with_reducible exact Below.refl _ _) | (with_reducible assumption) | (with_reducible refine Below.alloc ?_ ?_ _) | (with_reducible refine Below.drew ?_) | (with_reducible refine Below.setCell ?_ ?_ _) | (with_reducible refine Below.stepB (by assumption) ?_ ?_) | go_size)
  · have e2 : (kd == 2) = false := beq_eq_false_iff_ne.2 k2
    obtain ⟨y, hy⟩ : ∃ y : Int, y = 0 := ⟨0, rfl⟩
    by_cases k3 : kd = 3
    · have e3 : (kd == 3) = true := beq_iff_eq.2 k3
      clear k2 k3
      obtain ⟨mk', hm0⟩ : ∃ z : Int, z = mk := ⟨mk, rfl⟩
      rw [← hm0] at HP3 ⊢
      clear hm0 mk
      obtain ⟨mk, hm0⟩ : ∃ z : Int, z = 0 := ⟨0, rfl⟩
      have HP3' : Hid (Blk (w3.alloc (.cells #[.int .i64 kd, .int .i64 0, .int .i64 0, .string ⟨st.toArray⟩] 26)) w3.heap.size 26 #[.int .i64 kd, .int .i64 mk, .int .i64 y, .string ⟨st.toArray⟩]) := by
        show Blk _ _ _ _
        rw [hy, hm0]
        exact blk_newC w3 rfl
      clear hy hm0
      go_wp2_with fail
      refine (HPK.out (K + 8) 120 _ (by omega) (((HC3.out.below (by repeat' (first | (with_reducible exact Below.refl _ _) | (with_reducible assumption) | (with_reducible refine Below.alloc ?_ ?_ _) | (with_reducible refine Below.drew ?_) | (with_reducible refine Below.setCell ?_ ?_ _) | (with_reducible refine Below.stepB (by assumption) ?_ ?_) | go_size)))).more (by omega)) (by decide)).mono ?_
      rintro e w6 ⟨u, rfl, u0, u1, hD⟩
      have HT6 := Lib.hid (Blk.keptC (HT3.out.alloc _) hD.2 (by omega))
      have HP6 := Lib.hid (Blk.keptC (HP3'.out) hD.2 (by omega))
      have HK6 := Lib.hid (Kept.trans1 (HK3.out.laterB (by repeat' (first | (with_reducible exact Below.refl _ _) | (with_reducible assumption) | (with_reducible refine Below.alloc ?_ ?_ _) | (with_reducible refine Below.drew ?_) | (with_reducible refine Below.setCell ?_ ?_ _) | (with_reducible refine Below.stepB (by assumption) ?_ ?_) | go_size))) hD.2)
      have HC6 := Lib.hid hD.1
      have hz6 := hD.2.size
      (try simp at hz6)
      clear hD HP3
      have p0 : w6.cell? ⟨w3.heap.size, 0, none⟩ = some (.int .i64 kd) := HP6.out.cell 0
      have t0 : w6.cell? ⟨w.heap.size, 0, none⟩ = some (.int .i64 0) := HT6.out.cell 0
      have p1 : w6.cell? ⟨w3.heap.size, 1, none⟩ = some (.int .i64 mk) := HP6.out.cell 1
      have t1 : w6.cell? ⟨w.heap.size, 1, none⟩ = some (.int .i64 0) := HT6.out.cell 1
      have p2 : w6.cell? ⟨w3.heap.size, 2, none⟩ = some (.int .i64 y) := HP6.out.cell 2
      have t2 : w6.cell? ⟨w.heap.size, 2, none⟩ = some (.int .i64 0) := HT6.out.cell 2
      have p3 : w6.cell? ⟨w3.heap.size, 3, none⟩ = some (.string ⟨st.toArray⟩) := HP6.out.cell 3
      have t3 : w6.cell? ⟨w.heap.size, 3, none⟩ = some (.string ⟨#[]⟩) := HT6.out.cell 3
      have pf := HP6.out.frozen
      have pl := HP6.out.lt
      have tf := HT6.out.frozen
      have tl := HT6.out.lt
      by_cases h0 : u = 0
      · subst h0
        skip
        go_wp2_with fail
        refine (HAM.out (K + 10) w6.heap.size 2 2 [-1, 4] _ (by omega) (HC6.out.below (by repeat' (first | (with_reducible exact Below.refl _ _) | (with_reducible assumption) | (with_reducible refine Below.alloc ?_ ?_ _) | (with_reducible refine Below.drew ?_) | (with_reducible refine Below.setCell ?_ ?_ _) | (with_reducible refine Below.stepB (by assumption) ?_ ?_) | go_size))) ?_ (by omega) (by decide) (by simp) (by simp)).mono ?_
        · exact blk_newC _ (by simp)
        rintro e w7 ⟨z, rfl, hD⟩
        have HT7 := Lib.hid (Blk.keptC (HT6.out.alloc _) hD.2 (by omega))
        have HP7 := Lib.hid (Blk.keptC (HP6.out.alloc _) hD.2 (by omega))
        have HK7 := Lib.hid ((HK6.out.laterB (show Below w6.heap.size w6 _ from by repeat' (first | (with_reducible exact Below.refl _ _) | (with_reducible assumption) | (with_reducible refine Below.alloc ?_ ?_ _) | (with_reducible refine Below.drew ?_) | (with_reducible refine Below.setCell ?_ ?_ _) | (with_reducible refine Below.stepB (by assumption) ?_ ?_) | go_size))).trans1 hD.2)
        have HC7 := Lib.hid hD.1
        have hz7 := hD.2.size
        (try simp at hz7)
        clear hD p0 p1 p2 p3 t0 t1 t2 t3 tf tl pf pl
        have p0 : w7.cell? ⟨w3.heap.size, 0, none⟩ = some (.int .i64 kd) := HP7.out.cell 0
        have t0 : w7.cell? ⟨w.heap.size, 0, none⟩ = some (.int .i64 0) := HT7.out.cell 0
        have p1 : w7.cell? ⟨w3.heap.size, 1, none⟩ = some (.int .i64 mk) := HP7.out.cell 1
        have t1 : w7.cell? ⟨w.heap.size, 1, none⟩ = some (.int .i64 0) := HT7.out.cell 1
        have p2 : w7.cell? ⟨w3.heap.size, 2, none⟩ = some (.int .i64 y) := HP7.out.cell 2
        have t2 : w7.cell? ⟨w.heap.size, 2, none⟩ = some (.int .i64 0) := HT7.out.cell 2
        have p3 : w7.cell? ⟨w3.heap.size, 3, none⟩ = some (.string ⟨st.toArray⟩) := HP7.out.cell 3
        have t3 : w7.cell? ⟨w.heap.size, 3, none⟩ = some (.string ⟨#[]⟩) := HT7.out.cell 3
        have pf := HP7.out.frozen
        have pl := HP7.out.lt
        have tf := HT7.out.frozen
        have tl := HT7.out.lt
        have pz : ∀ v, (w7.setCell ⟨w3.heap.size, 0, none⟩ v).cell? ⟨w3.heap.size, 0, none⟩ = some v := fun v => (HP7.out.set_ 0 v).cell 0
        have HTZ := Lib.hid (HT7.out.far (p := ⟨w3.heap.size, 0, none⟩) hne (.int .i64 z))
        have e0 : ∀ v0 : Value, ((w7.setCell ⟨w3.heap.size, 0, none⟩ (.int .i64 z)).setCell ⟨w.heap.size, 0, none⟩ v0).cell? ⟨w.heap.size, 0, none⟩ = some v0 := fun v0 => (HTZ.out.set_ 0 v0).cell 0
        have e1 : ∀ v0 v1 : Value, (((w7.setCell ⟨w3.heap.size, 0, none⟩ (.int .i64 z)).setCell ⟨w.heap.size, 0, none⟩ v0).setCell ⟨w.heap.size, 1, none⟩ v1).cell? ⟨w.heap.size, 1, none⟩ = some v1 := fun v0 v1 => ((HTZ.out.set_ 0 v0).set_ 1 v1).cell 1
        have e2 : ∀ v0 v1 v2 : Value, ((((w7.setCell ⟨w3.heap.size, 0, none⟩ (.int .i64 z)).setCell ⟨w.heap.size, 0, none⟩ v0).setCell ⟨w.heap.size, 1, none⟩ v1).setCell ⟨w.heap.size, 2, none⟩ v2).cell? ⟨w.heap.size, 2, none⟩ = some v2 := fun v0 v1 v2 => (((HTZ.out.set_ 0 v0).set_ 1 v1).set_ 2 v2).cell 2
        have e3 : ∀ v0 v1 v2 v3 : Value, (((((w7.setCell ⟨w3.heap.size, 0, none⟩ (.int .i64 z)).setCell ⟨w.heap.size, 0, none⟩ v0).setCell ⟨w.heap.size, 1, none⟩ v1).setCell ⟨w.heap.size, 2, none⟩ v2).setCell ⟨w.heap.size, 3, none⟩ v3).cell? ⟨w.heap.size, 3, none⟩ = some v3 := fun v0 v1 v2 v3 => ((((HTZ.out.set_ 0 v0).set_ 1 v1).set_ 2 v2).set_ 3 v3).cell 3
        go_wp2
        (try simp only [Exit.inBlock, Exit.then])
        refine bodyPost_ret (by simp [results, Try.results35, go_sem, e0, e1, e2, e3]; try rfl) rfl ?_
        refine ⟨⟨_, _, _, _, hst⟩, rfl, (HC7.out.belowB (B := w.heap.size) ?_ hbl).more (by omega), HK7.out.onB ?_⟩ <;> repeat' (first | (with_reducible exact Below.refl _ _) | (with_reducible assumption) | (with_reducible refine Below.alloc ?_ ?_ _) | (with_reducible refine Below.drew ?_) | (with_reducible refine Below.setCell ?_ ?_ _) | (with_reducible refine Below.stepB (by assumption) ?_ ?_) | go_size)
      have hu0 : (u == 0) = false := by simpa using h0
      by_cases h1 : u = 1
      · subst h1
        skip
        go_wp2_with fail
        refine (HAM.out (K + 10) w6.heap.size 2 2 [-1, marks] _ (by omega) (HC6.out.below (by repeat' (first | (with_reducible exact Below.refl _ _) | (with_reducible assumption) | (with_reducible refine Below.alloc ?_ ?_ _) | (with_reducible refine Below.drew ?_) | (with_reducible refine Below.setCell ?_ ?_ _) | (with_reducible refine Below.stepB (by assumption) ?_ ?_) | go_size))) ?_ (by omega) (by decide) (by simp) (by simp)).mono ?_
        · exact blk_newC _ (by simp)
        rintro e w7 ⟨z, rfl, hD⟩
        have HT7 := Lib.hid (Blk.keptC (HT6.out.alloc _) hD.2 (by omega))
        have HP7 := Lib.hid (Blk.keptC (HP6.out.alloc _) hD.2 (by omega))
        have HK7 := Lib.hid ((HK6.out.laterB (show Below w6.heap.size w6 _ from by repeat' (first | (with_reducible exact Below.refl _ _) | (with_reducible assumption) | (with_reducible refine Below.alloc ?_ ?_ _) | (with_reducible refine Below.drew ?_) | (with_reducible refine Below.setCell ?_ ?_ _) | (with_reducible refine Below.stepB (by assumption) ?_ ?_) | go_size))).trans1 hD.2)
        have HC7 := Lib.hid hD.1
        have hz7 := hD.2.size
        (try simp at hz7)
        clear hD p0 p1 p2 p3 t0 t1 t2 t3 tf tl pf pl
        have p0 : w7.cell? ⟨w3.heap.size, 0, none⟩ = some (.int .i64 kd) := HP7.out.cell 0
        have t0 : w7.cell? ⟨w.heap.size, 0, none⟩ = some (.int .i64 0) := HT7.out.cell 0
        have p1 : w7.cell? ⟨w3.heap.size, 1, none⟩ = some (.int .i64 mk) := HP7.out.cell 1
        have t1 : w7.cell? ⟨w.heap.size, 1, none⟩ = some (.int .i64 0) := HT7.out.cell 1
        have p2 : w7.cell? ⟨w3.heap.size, 2, none⟩ = some (.int .i64 y) := HP7.out.cell 2
        have t2 : w7.cell? ⟨w.heap.size, 2, none⟩ = some (.int .i64 0) := HT7.out.cell 2
        have p3 : w7.cell? ⟨w3.heap.size, 3, none⟩ = some (.string ⟨st.toArray⟩) := HP7.out.cell 3
        have t3 : w7.cell? ⟨w.heap.size, 3, none⟩ = some (.string ⟨#[]⟩) := HT7.out.cell 3
        have pf := HP7.out.frozen
        have pl := HP7.out.lt
        have tf := HT7.out.frozen
        have tl := HT7.out.lt
        have pz : ∀ v, (w7.setCell ⟨w3.heap.size, 1, none⟩ v).cell? ⟨w3.heap.size, 1, none⟩ = some v := fun v => (HP7.out.set_ 1 v).cell 1
        have HTZ := Lib.hid (HT7.out.far (p := ⟨w3.heap.size, 1, none⟩) hne (.int .i64 z))
        have e0 : ∀ v0 : Value, ((w7.setCell ⟨w3.heap.size, 1, none⟩ (.int .i64 z)).setCell ⟨w.heap.size, 0, none⟩ v0).cell? ⟨w.heap.size, 0, none⟩ = some v0 := fun v0 => (HTZ.out.set_ 0 v0).cell 0
        have e1 : ∀ v0 v1 : Value, (((w7.setCell ⟨w3.heap.size, 1, none⟩ (.int .i64 z)).setCell ⟨w.heap.size, 0, none⟩ v0).setCell ⟨w.heap.size, 1, none⟩ v1).cell? ⟨w.heap.size, 1, none⟩ = some v1 := fun v0 v1 => ((HTZ.out.set_ 0 v0).set_ 1 v1).cell 1
        have e2 : ∀ v0 v1 v2 : Value, ((((w7.setCell ⟨w3.heap.size, 1, none⟩ (.int .i64 z)).setCell ⟨w.heap.size, 0, none⟩ v0).setCell ⟨w.heap.size, 1, none⟩ v1).setCell ⟨w.heap.size, 2, none⟩ v2).cell? ⟨w.heap.size, 2, none⟩ = some v2 := fun v0 v1 v2 => (((HTZ.out.set_ 0 v0).set_ 1 v1).set_ 2 v2).cell 2
        have e3 : ∀ v0 v1 v2 v3 : Value, (((((w7.setCell ⟨w3.heap.size, 1, none⟩ (.int .i64 z)).setCell ⟨w.heap.size, 0, none⟩ v0).setCell ⟨w.heap.size, 1, none⟩ v1).setCell ⟨w.heap.size, 2, none⟩ v2).setCell ⟨w.heap.size, 3, none⟩ v3).cell? ⟨w.heap.size, 3, none⟩ = some v3 := fun v0 v1 v2 v3 => ((((HTZ.out.set_ 0 v0).set_ 1 v1).set_ 2 v2).set_ 3 v3).cell 3
        go_wp2
        (try simp only [Exit.inBlock, Exit.then])
        refine bodyPost_ret (by simp [results, Try.results35, go_sem, e0, e1, e2, e3]; try rfl) rfl ?_
        refine ⟨⟨_, _, _, _, hst⟩, rfl, (HC7.out.belowB (B := w.heap.size) ?_ hbl).more (by omega), HK7.out.onB ?_⟩ <;> repeat' (first | (with_reducible exact Below.refl _ _) | (with_reducible assumption) | (with_reducible refine Below.alloc ?_ ?_ _) | (with_reducible refine Below.drew ?_) | (with_reducible refine Below.setCell ?_ ?_ _) | (with_reducible refine Below.stepB (by assumption) ?_ ?_) | go_size)
      have hu1 : (u == 1) = false := by simpa using h1
      by_cases h2 : u = 2
      · subst h2
        skip
        go_wp2_with fail
        refine (HAM.out (K + 10) w6.heap.size 4 4 [0, 5, 101, -101] _ (by omega) (HC6.out.below (by repeat' (first | (with_reducible exact Below.refl _ _) | (with_reducible assumption) | (with_reducible refine Below.alloc ?_ ?_ _) | (with_reducible refine Below.drew ?_) | (with_reducible refine Below.setCell ?_ ?_ _) | (with_reducible refine Below.stepB (by assumption) ?_ ?_) | go_size))) ?_ (by omega) (by decide) (by simp) (by simp)).mono ?_
        · exact blk_newC _ (by simp)
        rintro e w7 ⟨z, rfl, hD⟩
        have HT7 := Lib.hid (Blk.keptC (HT6.out.alloc _) hD.2 (by omega))
        have HP7 := Lib.hid (Blk.keptC (HP6.out.alloc _) hD.2 (by omega))
        have HK7 := Lib.hid ((HK6.out.laterB (show Below w6.heap.size w6 _ from by repeat' (first | (with_reducible exact Below.refl _ _) | (with_reducible assumption) | (with_reducible refine Below.alloc ?_ ?_ _) | (with_reducible refine Below.drew ?_) | (with_reducible refine Below.setCell ?_ ?_ _) | (with_reducible refine Below.stepB (by assumption) ?_ ?_) | go_size))).trans1 hD.2)
        have HC7 := Lib.hid hD.1
        have hz7 := hD.2.size
        (try simp at hz7)
        clear hD p0 p1 p2 p3 t0 t1 t2 t3 tf tl pf pl
        have p0 : w7.cell? ⟨w3.heap.size, 0, none⟩ = some (.int .i64 kd) := HP7.out.cell 0
        have t0 : w7.cell? ⟨w.heap.size, 0, none⟩ = some (.int .i64 0) := HT7.out.cell 0
        have p1 : w7.cell? ⟨w3.heap.size, 1, none⟩ = some (.int .i64 mk) := HP7.out.cell 1
        have t1 : w7.cell? ⟨w.heap.size, 1, none⟩ = some (.int .i64 0) := HT7.out.cell 1
        have p2 : w7.cell? ⟨w3.heap.size, 2, none⟩ = some (.int .i64 y) := HP7.out.cell 2
        have t2 : w7.cell? ⟨w.heap.size, 2, none⟩ = some (.int .i64 0) := HT7.out.cell 2
        have p3 : w7.cell? ⟨w3.heap.size, 3, none⟩ = some (.string ⟨st.toArray⟩) := HP7.out.cell 3
        have t3 : w7.cell? ⟨w.heap.size, 3, none⟩ = some (.string ⟨#[]⟩) := HT7.out.cell 3
        have pf := HP7.out.frozen
        have pl := HP7.out.lt
        have tf := HT7.out.frozen
        have tl := HT7.out.lt
        have pz : ∀ v, (w7.setCell ⟨w3.heap.size, 2, none⟩ v).cell? ⟨w3.heap.size, 2, none⟩ = some v := fun v => (HP7.out.set_ 2 v).cell 2
        have HTZ := Lib.hid (HT7.out.far (p := ⟨w3.heap.size, 2, none⟩) hne (.int .i64 z))
        have e0 : ∀ v0 : Value, ((w7.setCell ⟨w3.heap.size, 2, none⟩ (.int .i64 z)).setCell ⟨w.heap.size, 0, none⟩ v0).cell? ⟨w.heap.size, 0, none⟩ = some v0 := fun v0 => (HTZ.out.set_ 0 v0).cell 0
        have e1 : ∀ v0 v1 : Value, (((w7.setCell ⟨w3.heap.size, 2, none⟩ (.int .i64 z)).setCell ⟨w.heap.size, 0, none⟩ v0).setCell ⟨w.heap.size, 1, none⟩ v1).cell? ⟨w.heap.size, 1, none⟩ = some v1 := fun v0 v1 => ((HTZ.out.set_ 0 v0).set_ 1 v1).cell 1
        have e2 : ∀ v0 v1 v2 : Value, ((((w7.setCell ⟨w3.heap.size, 2, none⟩ (.int .i64 z)).setCell ⟨w.heap.size, 0, none⟩ v0).setCell ⟨w.heap.size, 1, none⟩ v1).setCell ⟨w.heap.size, 2, none⟩ v2).cell? ⟨w.heap.size, 2, none⟩ = some v2 := fun v0 v1 v2 => (((HTZ.out.set_ 0 v0).set_ 1 v1).set_ 2 v2).cell 2
        have e3 : ∀ v0 v1 v2 v3 : Value, (((((w7.setCell ⟨w3.heap.size, 2, none⟩ (.int .i64 z)).setCell ⟨w.heap.size, 0, none⟩ v0).setCell ⟨w.heap.size, 1, none⟩ v1).setCell ⟨w.heap.size, 2, none⟩ v2).setCell ⟨w.heap.size, 3, none⟩ v3).cell? ⟨w.heap.size, 3, none⟩ = some v3 := fun v0 v1 v2 v3 => ((((HTZ.out.set_ 0 v0).set_ 1 v1).set_ 2 v2).set_ 3 v3).cell 3
        go_wp2
        (try simp only [Exit.inBlock, Exit.then])
        refine bodyPost_ret (by simp [results, Try.results35, go_sem, e0, e1, e2, e3]; try rfl) rfl ?_
        refine ⟨⟨_, _, _, _, hst⟩, rfl, (HC7.out.belowB (B := w.heap.size) ?_ hbl).more (by omega), HK7.out.onB ?_⟩ <;> repeat' (first | (with_reducible exact Below.refl _ _) | (with_reducible assumption) | (with_reducible refine Below.alloc ?_ ?_ _) | (with_reducible refine Below.drew ?_) | (with_reducible refine Below.setCell ?_ ?_ _) | (with_reducible refine Below.stepB (by assumption) ?_ ?_) | go_size)
      have hu2 : (u == 2) = false := by simpa using h2
      by_cases h3 : u = 3
      · subst h3
        go_wp2_with fail
        refine (HOF.out (K + 10) w6.heap.size 3 3 [[], [65], [97, 98, 99, 100, 101, 102, 103, 104, 105, 106, 107]] _ (by omega) (HC6.out.below (by repeat' (first | (with_reducible exact Below.refl _ _) | (with_reducible assumption) | (with_reducible refine Below.alloc ?_ ?_ _) | (with_reducible refine Below.drew ?_) | (with_reducible refine Below.setCell ?_ ?_ _) | (with_reducible refine Below.stepB (by assumption) ?_ ?_) | go_size))) ?_ (by omega) (by decide) (by simp) (by simp) (by simp)).mono ?_
        · exact blk_newC _ (by simp)
        rintro e w7 ⟨z, rfl, hzs, hD⟩
        have HT7 := Lib.hid (Blk.keptC (HT6.out.alloc _) hD.2 (by omega))
        have HP7 := Lib.hid (Blk.keptC (HP6.out.alloc _) hD.2 (by omega))
        have HK7 := Lib.hid ((HK6.out.laterB (show Below w6.heap.size w6 _ from by repeat' (first | (with_reducible exact Below.refl _ _) | (with_reducible assumption) | (with_reducible refine Below.alloc ?_ ?_ _) | (with_reducible refine Below.drew ?_) | (with_reducible refine Below.setCell ?_ ?_ _) | (with_reducible refine Below.stepB (by assumption) ?_ ?_) | go_size))).trans1 hD.2)
        have HC7 := Lib.hid hD.1
        have hz7 := hD.2.size
        (try simp at hz7)
        clear hD p0 p1 p2 p3 t0 t1 t2 t3 tf tl pf pl
        have p0 : w7.cell? ⟨w3.heap.size, 0, none⟩ = some (.int .i64 kd) := HP7.out.cell 0
        have t0 : w7.cell? ⟨w.heap.size, 0, none⟩ = some (.int .i64 0) := HT7.out.cell 0
        have p1 : w7.cell? ⟨w3.heap.size, 1, none⟩ = some (.int .i64 mk) := HP7.out.cell 1
        have t1 : w7.cell? ⟨w.heap.size, 1, none⟩ = some (.int .i64 0) := HT7.out.cell 1
        have p2 : w7.cell? ⟨w3.heap.size, 2, none⟩ = some (.int .i64 y) := HP7.out.cell 2
        have t2 : w7.cell? ⟨w.heap.size, 2, none⟩ = some (.int .i64 0) := HT7.out.cell 2
        have p3 : w7.cell? ⟨w3.heap.size, 3, none⟩ = some (.string ⟨st.toArray⟩) := HP7.out.cell 3
        have t3 : w7.cell? ⟨w.heap.size, 3, none⟩ = some (.string ⟨#[]⟩) := HT7.out.cell 3
        have pf := HP7.out.frozen
        have pl := HP7.out.lt
        have tf := HT7.out.frozen
        have tl := HT7.out.lt
        have pz : ∀ v, (w7.setCell ⟨w3.heap.size, 3, none⟩ v).cell? ⟨w3.heap.size, 3, none⟩ = some v := fun v => (HP7.out.set_ 3 v).cell 3
        have HTZ := Lib.hid (HT7.out.far (p := ⟨w3.heap.size, 3, none⟩) hne (.string ⟨z.toArray⟩))
        have e0 : ∀ v0 : Value, ((w7.setCell ⟨w3.heap.size, 3, none⟩ (.string ⟨z.toArray⟩)).setCell ⟨w.heap.size, 0, none⟩ v0).cell? ⟨w.heap.size, 0, none⟩ = some v0 := fun v0 => (HTZ.out.set_ 0 v0).cell 0
        have e1 : ∀ v0 v1 : Value, (((w7.setCell ⟨w3.heap.size, 3, none⟩ (.string ⟨z.toArray⟩)).setCell ⟨w.heap.size, 0, none⟩ v0).setCell ⟨w.heap.size, 1, none⟩ v1).cell? ⟨w.heap.size, 1, none⟩ = some v1 := fun v0 v1 => ((HTZ.out.set_ 0 v0).set_ 1 v1).cell 1
        have e2 : ∀ v0 v1 v2 : Value, ((((w7.setCell ⟨w3.heap.size, 3, none⟩ (.string ⟨z.toArray⟩)).setCell ⟨w.heap.size, 0, none⟩ v0).setCell ⟨w.heap.size, 1, none⟩ v1).setCell ⟨w.heap.size, 2, none⟩ v2).cell? ⟨w.heap.size, 2, none⟩ = some v2 := fun v0 v1 v2 => (((HTZ.out.set_ 0 v0).set_ 1 v1).set_ 2 v2).cell 2
        have e3 : ∀ v0 v1 v2 v3 : Value, (((((w7.setCell ⟨w3.heap.size, 3, none⟩ (.string ⟨z.toArray⟩)).setCell ⟨w.heap.size, 0, none⟩ v0).setCell ⟨w.heap.size, 1, none⟩ v1).setCell ⟨w.heap.size, 2, none⟩ v2).setCell ⟨w.heap.size, 3, none⟩ v3).cell? ⟨w.heap.size, 3, none⟩ = some v3 := fun v0 v1 v2 v3 => ((((HTZ.out.set_ 0 v0).set_ 1 v1).set_ 2 v2).set_ 3 v3).cell 3
        go_wp2
        (try simp only [Exit.inBlock, Exit.then])
        refine bodyPost_ret (by simp [results, Try.results35, go_sem, e0, e1, e2, e3]; try rfl) rfl ?_
        refine ⟨⟨_, _, _, _, hzs⟩, rfl, (HC7.out.belowB (B := w.heap.size) ?_ hbl).more (by omega), HK7.out.onB ?_⟩ <;> repeat' (first | (with_reducible exact Below.refl _ _) | (with_reducible assumption) | (with_reducible refine Below.alloc ?_ ?_ _) | (with_reducible refine Below.drew ?_) | (with_reducible refine Below.setCell ?_ ?_ _) | (with_reducible refine Below.stepB (by assumption) ?_ ?_) | go_size)
      have hu3 : (u == 3) = false := by simpa using h3
      clear h0 h1 h2 h3
      have e0 : ∀ v0 : Value, (w6.setCell ⟨w.heap.size, 0, none⟩ v0).cell? ⟨w.heap.size, 0, none⟩ = some v0 := fun v0 => (HT6.out.set_ 0 v0).cell 0
      have e1 : ∀ v0 v1 : Value, ((w6.setCell ⟨w.heap.size, 0, none⟩ v0).setCell ⟨w.heap.size, 1, none⟩ v1).cell? ⟨w.heap.size, 1, none⟩ = some v1 := fun v0 v1 => ((HT6.out.set_ 0 v0).set_ 1 v1).cell 1
      have e2 : ∀ v0 v1 v2 : Value, (((w6.setCell ⟨w.heap.size, 0, none⟩ v0).setCell ⟨w.heap.size, 1, none⟩ v1).setCell ⟨w.heap.size, 2, none⟩ v2).cell? ⟨w.heap.size, 2, none⟩ = some v2 := fun v0 v1 v2 => (((HT6.out.set_ 0 v0).set_ 1 v1).set_ 2 v2).cell 2
      have e3 : ∀ v0 v1 v2 v3 : Value, ((((w6.setCell ⟨w.heap.size, 0, none⟩ v0).setCell ⟨w.heap.size, 1, none⟩ v1).setCell ⟨w.heap.size, 2, none⟩ v2).setCell ⟨w.heap.size, 3, none⟩ v3).cell? ⟨w.heap.size, 3, none⟩ = some v3 := fun v0 v1 v2 v3 => ((((HT6.out.set_ 0 v0).set_ 1 v1).set_ 2 v2).set_ 3 v3).cell 3
      go_wp2
      (try simp only [Exit.inBlock, Exit.then])
      refine bodyPost_ret (by simp [results, Try.results35, go_sem, e0, e1, e2, e3]; try rfl) rfl ?_
      refine ⟨⟨_, _, _, _, hst⟩, rfl, (HC6.out.belowB (B := w.heap.size) ?_ hbl).more (by omega), HK6.out.onB ?_⟩ <;> repeat' (first | (with_reducible exact Below.refl _ _) | (with_reducible assumption) | (with_reducible refine Below.alloc ?_ ?_ _) | (with_reducible refine Below.drew ?_) | (with_reducible refine Below.setCell ?_ ?_ _) | (with_reducible refine Below.stepB (by assumption) ?_ ?_) | go_size)
    · have e3 : (kd == 3) = false := beq_eq_false_iff_ne.2 k3
      clear k2 k3
      have HP3' : Hid (Blk (w3.alloc (.cells #[.int .i64 kd, .int .i64 mk, .int .i64 0, .string ⟨st.toArray⟩] 26)) w3.heap.size 26 #[.int .i64 kd, .int .i64 mk, .int .i64 y, .string ⟨st.toArray⟩]) := by
        show Blk _ _ _ _
        rw [hy]
        exact HP3.out
      clear hy
      go_wp2_with fail
      refine (HPK.out (K + 8) 120 _ (by omega) (((HC3.out.below (by repeat' (first | (with_reducible exact Below.refl _ _) | (with_reducible assumption) | (with_reducible refine Below.alloc ?_ ?_ _) | (with_reducible refine Below.drew ?_) | (with_reducible refine Below.setCell ?_ ?_ _) | (with_reducible refine Below.stepB (by assumption) ?_ ?_) | go_size)))).more (by omega)) (by decide)).mono ?_
      rintro e w6 ⟨u, rfl, u0, u1, hD⟩
      have HT6 := Lib.hid (Blk.keptC (HT3.out.alloc _) hD.2 (by omega))
      have HP6 := Lib.hid (Blk.keptC (HP3'.out) hD.2 (by omega))
      have HK6 := Lib.hid (Kept.trans1 (HK3.out.laterB (by repeat' (first | (with_reducible exact Below.refl _ _) | (with_reducible assumption) | (with_reducible refine Below.alloc ?_ ?_ _) | (with_reducible refine Below.drew ?_) | (with_reducible refine Below.setCell ?_ ?_ _) | (with_reducible refine Below.stepB (by assumption) ?_ ?_) | go_size))) hD.2)
      have HC6 := Lib.hid hD.1
      have hz6 := hD.2.size
      (try simp at hz6)
      clear hD HP3
      have p0 : w6.cell? ⟨w3.heap.size, 0, none⟩ = some (.int .i64 kd) := HP6.out.cell 0
      have t0 : w6.cell? ⟨w.heap.size, 0, none⟩ = some (.int .i64 0) := HT6.out.cell 0
      have p1 : w6.cell? ⟨w3.heap.size, 1, none⟩ = some (.int .i64 mk) := HP6.out.cell 1
      have t1 : w6.cell? ⟨w.heap.size, 1, none⟩ = some (.int .i64 0) := HT6.out.cell 1
      have p2 : w6.cell? ⟨w3.heap.size, 2, none⟩ = some (.int .i64 y) := HP6.out.cell 2
      have t2 : w6.cell? ⟨w.heap.size, 2, none⟩ = some (.int .i64 0) := HT6.out.cell 2
      have p3 : w6.cell? ⟨w3.heap.size, 3, none⟩ = some (.string ⟨st.toArray⟩) := HP6.out.cell 3
      have t3 : w6.cell? ⟨w.heap.size, 3, none⟩ = some (.string ⟨#[]⟩) := HT6.out.cell 3
      have pf := HP6.out.frozen
      have pl := HP6.out.lt
      have tf := HT6.out.frozen
      have tl := HT6.out.lt
      by_cases h0 : u = 0
      · subst h0
        skip
        go_wp2_with fail
        refine (HAM.out (K + 10) w6.heap.size 2 2 [-1, 4] _ (by omega) (HC6.out.below (by repeat' (first | (with_reducible exact Below.refl _ _) | (with_reducible assumption) | (with_reducible refine Below.alloc ?_ ?_ _) | (with_reducible refine Below.drew ?_) | (with_reducible refine Below.setCell ?_ ?_ _) | (with_reducible refine Below.stepB (by assumption) ?_ ?_) | go_size))) ?_ (by omega) (by decide) (by simp) (by simp)).mono ?_
        · exact blk_newC _ (by simp)
        rintro e w7 ⟨z, rfl, hD⟩
        have HT7 := Lib.hid (Blk.keptC (HT6.out.alloc _) hD.2 (by omega))
        have HP7 := Lib.hid (Blk.keptC (HP6.out.alloc _) hD.2 (by omega))
        have HK7 := Lib.hid ((HK6.out.laterB (show Below w6.heap.size w6 _ from by repeat' (first | (with_reducible exact Below.refl _ _) | (with_reducible assumption) | (with_reducible refine Below.alloc ?_ ?_ _) | (with_reducible refine Below.drew ?_) | (with_reducible refine Below.setCell ?_ ?_ _) | (with_reducible refine Below.stepB (by assumption) ?_ ?_) | go_size))).trans1 hD.2)
        have HC7 := Lib.hid hD.1
        have hz7 := hD.2.size
        (try simp at hz7)
        clear hD p0 p1 p2 p3 t0 t1 t2 t3 tf tl pf pl
        have p0 : w7.cell? ⟨w3.heap.size, 0, none⟩ = some (.int .i64 kd) := HP7.out.cell 0
        have t0 : w7.cell? ⟨w.heap.size, 0, none⟩ = some (.int .i64 0) := HT7.out.cell 0
        have p1 : w7.cell? ⟨w3.heap.size, 1, none⟩ = some (.int .i64 mk) := HP7.out.cell 1
        have t1 : w7.cell? ⟨w.heap.size, 1, none⟩ = some (.int .i64 0) := HT7.out.cell 1
        have p2 : w7.cell? ⟨w3.heap.size, 2, none⟩ = some (.int .i64 y) := HP7.out.cell 2
        have t2 : w7.cell? ⟨w.heap.size, 2, none⟩ = some (.int .i64 0) := HT7.out.cell 2
        have p3 : w7.cell? ⟨w3.heap.size, 3, none⟩ = some (.string ⟨st.toArray⟩) := HP7.out.cell 3
        have t3 : w7.cell? ⟨w.heap.size, 3, none⟩ = some (.string ⟨#[]⟩) := HT7.out.cell 3
        have pf := HP7.out.frozen
        have pl := HP7.out.lt
        have tf := HT7.out.frozen
        have tl := HT7.out.lt
        have pz : ∀ v, (w7.setCell ⟨w3.heap.size, 0, none⟩ v).cell? ⟨w3.heap.size, 0, none⟩ = some v := fun v => (HP7.out.set_ 0 v).cell 0
        have HTZ := Lib.hid (HT7.out.far (p := ⟨w3.heap.size, 0, none⟩) hne (.int .i64 z))
        have e0 : ∀ v0 : Value, ((w7.setCell ⟨w3.heap.size, 0, none⟩ (.int .i64 z)).setCell ⟨w.heap.size, 0, none⟩ v0).cell? ⟨w.heap.size, 0, none⟩ = some v0 := fun v0 => (HTZ.out.set_ 0 v0).cell 0
        have e1 : ∀ v0 v1 : Value, (((w7.setCell ⟨w3.heap.size, 0, none⟩ (.int .i64 z)).setCell ⟨w.heap.size, 0, none⟩ v0).setCell ⟨w.heap.size, 1, none⟩ v1).cell? ⟨w.heap.size, 1, none⟩ = some v1 := fun v0 v1 => ((HTZ.out.set_ 0 v0).set_ 1 v1).cell 1
        have e2 : ∀ v0 v1 v2 : Value, ((((w7.setCell ⟨w3.heap.size, 0, none⟩ (.int .i64 z)).setCell ⟨w.heap.size, 0, none⟩ v0).setCell ⟨w.heap.size, 1, none⟩ v1).setCell ⟨w.heap.size, 2, none⟩ v2).cell? ⟨w.heap.size, 2, none⟩ = some v2 := fun v0 v1 v2 => (((HTZ.out.set_ 0 v0).set_ 1 v1).set_ 2 v2).cell 2
        have e3 : ∀ v0 v1 v2 v3 : Value, (((((w7.setCell ⟨w3.heap.size, 0, none⟩ (.int .i64 z)).setCell ⟨w.heap.size, 0, none⟩ v0).setCell ⟨w.heap.size, 1, none⟩ v1).setCell ⟨w.heap.size, 2, none⟩ v2).setCell ⟨w.heap.size, 3, none⟩ v3).cell? ⟨w.heap.size, 3, none⟩ = some v3 := fun v0 v1 v2 v3 => ((((HTZ.out.set_ 0 v0).set_ 1 v1).set_ 2 v2).set_ 3 v3).cell 3
        go_wp2
        (try simp only [Exit.inBlock, Exit.then])
        refine bodyPost_ret (by simp [results, Try.results35, go_sem, e0, e1, e2, e3]; try rfl) rfl ?_
        refine ⟨⟨_, _, _, _, hst⟩, rfl, (HC7.out.belowB (B := w.heap.size) ?_ hbl).more (by omega), HK7.out.onB ?_⟩ <;> repeat' (first | (with_reducible exact Below.refl _ _) | (with_reducible assumption) | (with_reducible refine Below.alloc ?_ ?_ _) | (with_reducible refine Below.drew ?_) | (with_reducible refine Below.setCell ?_ ?_ _) | (with_reducible refine Below.stepB (by assumption) ?_ ?_) | go_size)
      have hu0 : (u == 0) = false := by simpa using h0
      by_cases h1 : u = 1
      · subst h1
        skip
        go_wp2_with fail
        refine (HAM.out (K + 10) w6.heap.size 2 2 [-1, marks] _ (by omega) (HC6.out.below (by repeat' (first | (with_reducible exact Below.refl _ _) | (with_reducible assumption) | (with_reducible refine Below.alloc ?_ ?_ _) | (with_reducible refine Below.drew ?_) | (with_reducible refine Below.setCell ?_ ?_ _) | (with_reducible refine Below.stepB (by assumption) ?_ ?_) | go_size))) ?_ (by omega) (by decide) (by simp) (by simp)).mono ?_
        · exact blk_newC _ (by simp)
        rintro e w7 ⟨z, rfl, hD⟩
        have HT7 := Lib.hid (Blk.keptC (HT6.out.alloc _) hD.2 (by omega))
        have HP7 := Lib.hid (Blk.keptC (HP6.out.alloc _) hD.2 (by omega))
        have HK7 := Lib.hid ((HK6.out.laterB (show Below w6.heap.size w6 _ from by repeat' (first | (with_reducible exact Below.refl _ _) | (with_reducible assumption) | (with_reducible refine Below.alloc ?_ ?_ _) | (with_reducible refine Below.drew ?_) | (with_reducible refine Below.setCell ?_ ?_ _) | (with_reducible refine Below.stepB (by assumption) ?_ ?_) | go_size))).trans1 hD.2)
        have HC7 := Lib.hid hD.1
        have hz7 := hD.2.size
        (try simp at hz7)
        clear hD p0 p1 p2 p3 t0 t1 t2 t3 tf tl pf pl
        have p0 : w7.cell? ⟨w3.heap.size, 0, none⟩ = some (.int .i64 kd) := HP7.out.cell 0
        have t0 : w7.cell? ⟨w.heap.size, 0, none⟩ = some (.int .i64 0) := HT7.out.cell 0
        have p1 : w7.cell? ⟨w3.heap.size, 1, none⟩ = some (.int .i64 mk) := HP7.out.cell 1
        have t1 : w7.cell? ⟨w.heap.size, 1, none⟩ = some (.int .i64 0) := HT7.out.cell 1
        have p2 : w7.cell? ⟨w3.heap.size, 2, none⟩ = some (.int .i64 y) := HP7.out.cell 2
        have t2 : w7.cell? ⟨w.heap.size, 2, none⟩ = some (.int .i64 0) := HT7.out.cell 2
        have p3 : w7.cell? ⟨w3.heap.size, 3, none⟩ = some (.string ⟨st.toArray⟩) := HP7.out.cell 3
        have t3 : w7.cell? ⟨w.heap.size, 3, none⟩ = some (.string ⟨#[]⟩) := HT7.out.cell 3
        have pf := HP7.out.frozen
        have pl := HP7.out.lt
        have tf := HT7.out.frozen
        have tl := HT7.out.lt
        have pz : ∀ v, (w7.setCell ⟨w3.heap.size, 1, none⟩ v).cell? ⟨w3.heap.size, 1, none⟩ = some v := fun v => (HP7.out.set_ 1 v).cell 1
        have HTZ := Lib.hid (HT7.out.far (p := ⟨w3.heap.size, 1, none⟩) hne (.int .i64 z))
        have e0 : ∀ v0 : Value, ((w7.setCell ⟨w3.heap.size, 1, none⟩ (.int .i64 z)).setCell ⟨w.heap.size, 0, none⟩ v0).cell? ⟨w.heap.size, 0, none⟩ = some v0 := fun v0 => (HTZ.out.set_ 0 v0).cell 0
        have e1 : ∀ v0 v1 : Value, (((w7.setCell ⟨w3.heap.size, 1, none⟩ (.int .i64 z)).setCell ⟨w.heap.size, 0, none⟩ v0).setCell ⟨w.heap.size, 1, none⟩ v1).cell? ⟨w.heap.size, 1, none⟩ = some v1 := fun v0 v1 => ((HTZ.out.set_ 0 v0).set_ 1 v1).cell 1
        have e2 : ∀ v0 v1 v2 : Value, ((((w7.setCell ⟨w3.heap.size, 1, none⟩ (.int .i64 z)).setCell ⟨w.heap.size, 0, none⟩ v0).setCell ⟨w.heap.size, 1, none⟩ v1).setCell ⟨w.heap.size, 2, none⟩ v2).cell? ⟨w.heap.size, 2, none⟩ = some v2 := fun v0 v1 v2 => (((HTZ.out.set_ 0 v0).set_ 1 v1).set_ 2 v2).cell 2
        have e3 : ∀ v0 v1 v2 v3 : Value, (((((w7.setCell ⟨w3.heap.size, 1, none⟩ (.int .i64 z)).setCell ⟨w.heap.size, 0, none⟩ v0).setCell ⟨w.heap.size, 1, none⟩ v1).setCell ⟨w.heap.size, 2, none⟩ v2).setCell ⟨w.heap.size, 3, none⟩ v3).cell? ⟨w.heap.size, 3, none⟩ = some v3 := fun v0 v1 v2 v3 => ((((HTZ.out.set_ 0 v0).set_ 1 v1).set_ 2 v2).set_ 3 v3).cell 3
        go_wp2
        (try simp only [Exit.inBlock, Exit.then])
        refine bodyPost_ret (by simp [results, Try.results35, go_sem, e0, e1, e2, e3]; try rfl) rfl ?_
        refine ⟨⟨_, _, _, _, hst⟩, rfl, (HC7.out.belowB (B := w.heap.size) ?_ hbl).more (by omega), HK7.out.onB ?_⟩ <;> repeat' (first | (with_reducible exact Below.refl _ _) | (with_reducible assumption) | (with_reducible refine Below.alloc ?_ ?_ _) | (with_reducible refine Below.drew ?_) | (with_reducible refine Below.setCell ?_ ?_ _) | (with_reducible refine Below.stepB (by assumption) ?_ ?_) | go_size)
      have hu1 : (u == 1) = false := by simpa using h1
      by_cases h2 : u = 2
      · subst h2
        skip
        go_wp2_with fail
        refine (HAM.out (K + 10) w6.heap.size 4 4 [0, 5, 101, -101] _ (by omega) (HC6.out.below (by repeat' (first | (with_reducible exact Below.refl _ _) | (with_reducible assumption) | (with_reducible refine Below.alloc ?_ ?_ _) | (with_reducible refine Below.drew ?_) | (with_reducible refine Below.setCell ?_ ?_ _) | (with_reducible refine Below.stepB (by assumption) ?_ ?_) | go_size))) ?_ (by omega) (by decide) (by simp) (by simp)).mono ?_
        · exact blk_newC _ (by simp)
        rintro e w7 ⟨z, rfl, hD⟩
        have HT7 := Lib.hid (Blk.keptC (HT6.out.alloc _) hD.2 (by omega))
        have HP7 := Lib.hid (Blk.keptC (HP6.out.alloc _) hD.2 (by omega))
        have HK7 := Lib.hid ((HK6.out.laterB (show Below w6.heap.size w6 _ from by repeat' (first | (with_reducible exact Below.refl _ _) | (with_reducible assumption) | (with_reducible refine Below.alloc ?_ ?_ _) | (with_reducible refine Below.drew ?_) | (with_reducible refine Below.setCell ?_ ?_ _) | (with_reducible refine Below.stepB (by assumption) ?_ ?_) | go_size))).trans1 hD.2)
        have HC7 := Lib.hid hD.1
        have hz7 := hD.2.size
        (try simp at hz7)
        clear hD p0 p1 p2 p3 t0 t1 t2 t3 tf tl pf pl
        have p0 : w7.cell? ⟨w3.heap.size, 0, none⟩ = some (.int .i64 kd) := HP7.out.cell 0
        have t0 : w7.cell? ⟨w.heap.size, 0, none⟩ = some (.int .i64 0) := HT7.out.cell 0
        have p1 : w7.cell? ⟨w3.heap.size, 1, none⟩ = some (.int .i64 mk) := HP7.out.cell 1
        have t1 : w7.cell? ⟨w.heap.size, 1, none⟩ = some (.int .i64 0) := HT7.out.cell 1
        have p2 : w7.cell? ⟨w3.heap.size, 2, none⟩ = some (.int .i64 y) := HP7.out.cell 2
        have t2 : w7.cell? ⟨w.heap.size, 2, none⟩ = some (.int .i64 0) := HT7.out.cell 2
        have p3 : w7.cell? ⟨w3.heap.size, 3, none⟩ = some (.string ⟨st.toArray⟩) := HP7.out.cell 3
        have t3 : w7.cell? ⟨w.heap.size, 3, none⟩ = some (.string ⟨#[]⟩) := HT7.out.cell 3
        have pf := HP7.out.frozen
        have pl := HP7.out.lt
        have tf := HT7.out.frozen
        have tl := HT7.out.lt
        have pz : ∀ v, (w7.setCell ⟨w3.heap.size, 2, none⟩ v).cell? ⟨w3.heap.size, 2, none⟩ = some v := fun v => (HP7.out.set_ 2 v).cell 2
        have HTZ := Lib.hid (HT7.out.far (p := ⟨w3.heap.size, 2, none⟩) hne (.int .i64 z))
        have e0 : ∀ v0 : Value, ((w7.setCell ⟨w3.heap.size, 2, none⟩ (.int .i64 z)).setCell ⟨w.heap.size, 0, none⟩ v0).cell? ⟨w.heap.size, 0, none⟩ = some v0 := fun v0 => (HTZ.out.set_ 0 v0).cell 0
        have e1 : ∀ v0 v1 : Value, (((w7.setCell ⟨w3.heap.size, 2, none⟩ (.int .i64 z)).setCell ⟨w.heap.size, 0, none⟩ v0).setCell ⟨w.heap.size, 1, none⟩ v1).cell? ⟨w.heap.size, 1, none⟩ = some v1 := fun v0 v1 => ((HTZ.out.set_ 0 v0).set_ 1 v1).cell 1
        have e2 : ∀ v0 v1 v2 : Value, ((((w7.setCell ⟨w3.heap.size, 2, none⟩ (.int .i64 z)).setCell ⟨w.heap.size, 0, none⟩ v0).setCell ⟨w.heap.size, 1, none⟩ v1).setCell ⟨w.heap.size, 2, none⟩ v2).cell? ⟨w.heap.size, 2, none⟩ = some v2 := fun v0 v1 v2 => (((HTZ.out.set_ 0 v0).set_ 1 v1).set_ 2 v2).cell 2
        have e3 : ∀ v0 v1 v2 v3 : Value, (((((w7.setCell ⟨w3.heap.size, 2, none⟩ (.int .i64 z)).setCell ⟨w.heap.size, 0, none⟩ v0).setCell ⟨w.heap.size, 1, none⟩ v1).setCell ⟨w.heap.size, 2, none⟩ v2).setCell ⟨w.heap.size, 3, none⟩ v3).cell? ⟨w.heap.size, 3, none⟩ = some v3 := fun v0 v1 v2 v3 => ((((HTZ.out.set_ 0 v0).set_ 1 v1).set_ 2 v2).set_ 3 v3).cell 3
        go_wp2
        (try simp only [Exit.inBlock, Exit.then])
        refine bodyPost_ret (by simp [results, Try.results35, go_sem, e0, e1, e2, e3]; try rfl) rfl ?_
        refine ⟨⟨_, _, _, _, hst⟩, rfl, (HC7.out.belowB (B := w.heap.size) ?_ hbl).more (by omega), HK7.out.onB ?_⟩ <;> repeat' (first | (with_reducible exact Below.refl _ _) | (with_reducible assumption) | (with_reducible refine Below.alloc ?_ ?_ _) | (with_reducible refine Below.drew ?_) | (with_reducible refine Below.setCell ?_ ?_ _) | (with_reducible refine Below.stepB (by assumption) ?_ ?_) | go_size)
      have hu2 : (u == 2) = false := by simpa using h2
      by_cases h3 : u = 3
      · subst h3
        go_wp2_with fail
        refine (HOF.out (K + 10) w6.heap.size 3 3 [[], [65], [97, 98, 99, 100, 101, 102, 103, 104, 105, 106, 107]] _ (by omega) (HC6.out.below (by repeat' (first | (with_reducible exact Below.refl _ _) | (with_reducible assumption) | (with_reducible refine Below.alloc ?_ ?_ _) | (with_reducible refine Below.drew ?_) | (with_reducible refine Below.setCell ?_ ?_ _) | (with_reducible refine Below.stepB (by assumption) ?_ ?_) | go_size))) ?_ (by omega) (by decide) (by simp) (by simp) (by simp)).mono ?_
        · exact blk_newC _ (by simp)
        rintro e w7 ⟨z, rfl, hzs, hD⟩
        have HT7 := Lib.hid (Blk.keptC (HT6.out.alloc _) hD.2 (by omega))
        have HP7 := Lib.hid (Blk.keptC (HP6.out.alloc _) hD.2 (by omega))
        have HK7 := Lib.hid ((HK6.out.laterB (show Below w6.heap.size w6 _ from by repeat' (first | (with_reducible exact Below.refl _ _) | (with_reducible assumption) | (with_reducible refine Below.alloc ?_ ?_ _) | (with_reducible refine Below.drew ?_) | (with_reducible refine Below.setCell ?_ ?_ _) | (with_reducible refine Below.stepB (by assumption) ?_ ?_) | go_size))).trans1 hD.2)
        have HC7 := Lib.hid hD.1
        have hz7 := hD.2.size
        (try simp at hz7)
        clear hD p0 p1 p2 p3 t0 t1 t2 t3 tf tl pf pl
        have p0 : w7.cell? ⟨w3.heap.size, 0, none⟩ = some (.int .i64 kd) := HP7.out.cell 0
        have t0 : w7.cell? ⟨w.heap.size, 0, none⟩ = some (.int .i64 0) := HT7.out.cell 0
        have p1 : w7.cell? ⟨w3.heap.size, 1, none⟩ = some (.int .i64 mk) := HP7.out.cell 1
        have t1 : w7.cell? ⟨w.heap.size, 1, none⟩ = some (.int .i64 0) := HT7.out.cell 1
        have p2 : w7.cell? ⟨w3.heap.size, 2, none⟩ = some (.int .i64 y) := HP7.out.cell 2
        have t2 : w7.cell? ⟨w.heap.size, 2, none⟩ = some (.int .i64 0) := HT7.out.cell 2
        have p3 : w7.cell? ⟨w3.heap.size, 3, none⟩ = some (.string ⟨st.toArray⟩) := HP7.out.cell 3
        have t3 : w7.cell? ⟨w.heap.size, 3, none⟩ = some (.string ⟨#[]⟩) := HT7.out.cell 3
        have pf := HP7.out.frozen
        have pl := HP7.out.lt
        have tf := HT7.out.frozen
        have tl := HT7.out.lt
        have pz : ∀ v, (w7.setCell ⟨w3.heap.size, 3, none⟩ v).cell? ⟨w3.heap.size, 3, none⟩ = some v := fun v => (HP7.out.set_ 3 v).cell 3
        have HTZ := Lib.hid (HT7.out.far (p := ⟨w3.heap.size, 3, none⟩) hne (.string ⟨z.toArray⟩))
        have e0 : ∀ v0 : Value, ((w7.setCell ⟨w3.heap.size, 3, none⟩ (.string ⟨z.toArray⟩)).setCell ⟨w.heap.size, 0, none⟩ v0).cell? ⟨w.heap.size, 0, none⟩ = some v0 := fun v0 => (HTZ.out.set_ 0 v0).cell 0
        have e1 : ∀ v0 v1 : Value, (((w7.setCell ⟨w3.heap.size, 3, none⟩ (.string ⟨z.toArray⟩)).setCell ⟨w.heap.size, 0, none⟩ v0).setCell ⟨w.heap.size, 1, none⟩ v1).cell? ⟨w.heap.size, 1, none⟩ = some v1 := fun v0 v1 => ((HTZ.out.set_ 0 v0).set_ 1 v1).cell 1
        have e2 : ∀ v0 v1 v2 : Value, ((((w7.setCell ⟨w3.heap.size, 3, none⟩ (.string ⟨z.toArray⟩)).setCell ⟨w.heap.size, 0, none⟩ v0).setCell ⟨w.heap.size, 1, none⟩ v1).setCell ⟨w.heap.size, 2, none⟩ v2).cell? ⟨w.heap.size, 2, none⟩ = some v2 := fun v0 v1 v2 => (((HTZ.out.set_ 0 v0).set_ 1 v1).set_ 2 v2).cell 2
        have e3 : ∀ v0 v1 v2 v3 : Value, (((((w7.setCell ⟨w3.heap.size, 3, none⟩ (.string ⟨z.toArray⟩)).setCell ⟨w.heap.size, 0, none⟩ v0).setCell ⟨w.heap.size, 1, none⟩ v1).setCell ⟨w.heap.size, 2, none⟩ v2).setCell ⟨w.heap.size, 3, none⟩ v3).cell? ⟨w.heap.size, 3, none⟩ = some v3 := fun v0 v1 v2 v3 => ((((HTZ.out.set_ 0 v0).set_ 1 v1).set_ 2 v2).set_ 3 v3).cell 3
        go_wp2
        (try simp only [Exit.inBlock, Exit.then])
        refine bodyPost_ret (by simp [results, Try.results35, go_sem, e0, e1, e2, e3]; try rfl) rfl ?_
        refine ⟨⟨_, _, _, _, hzs⟩, rfl, (HC7.out.belowB (B := w.heap.size) ?_ hbl).more (by omega), HK7.out.onB ?_⟩ <;> repeat' (first | (with_reducible exact Below.refl _ _) | (with_reducible assumption) | (with_reducible refine Below.alloc ?_ ?_ _) | (with_reducible refine Below.drew ?_) | (with_reducible refine Below.setCell ?_ ?_ _) | (with_reducible refine Below.stepB (by assumption) ?_ ?_) | go_size)
      have hu3 : (u == 3) = false := by simpa using h3
      clear h0 h1 h2 h3
      have e0 : ∀ v0 : Value, (w6.setCell ⟨w.heap.size, 0, none⟩ v0).cell? ⟨w.heap.size, 0, none⟩ = some v0 := fun v0 => (HT6.out.set_ 0 v0).cell 0
      have e1 : ∀ v0 v1 : Value, ((w6.setCell ⟨w.heap.size, 0, none⟩ v0).setCell ⟨w.heap.size, 1, none⟩ v1).cell? ⟨w.heap.size, 1, none⟩ = some v1 := fun v0 v1 => ((HT6.out.set_ 0 v0).set_ 1 v1).cell 1
      have e2 : ∀ v0 v1 v2 : Value, (((w6.setCell ⟨w.heap.size, 0, none⟩ v0).setCell ⟨w.heap.size, 1, none⟩ v1).setCell ⟨w.heap.size, 2, none⟩ v2).cell? ⟨w.heap.size, 2, none⟩ = some v2 := fun v0 v1 v2 => (((HT6.out.set_ 0 v0).set_ 1 v1).set_ 2 v2).cell 2
      have e3 : ∀ v0 v1 v2 v3 : Value, ((((w6.setCell ⟨w.heap.size, 0, none⟩ v0).setCell ⟨w.heap.size, 1, none⟩ v1).setCell ⟨w.heap.size, 2, none⟩ v2).setCell ⟨w.heap.size, 3, none⟩ v3).cell? ⟨w.heap.size, 3, none⟩ = some v3 := fun v0 v1 v2 v3 => ((((HT6.out.set_ 0 v0).set_ 1 v1).set_ 2 v2).set_ 3 v3).cell 3
      go_wp2
      (try simp only [Exit.inBlock, Exit.then])
      refine bodyPost_ret (by simp [results, Try.results35, go_sem, e0, e1, e2, e3]; try rfl) rfl ?_
      refine ⟨⟨_, _, _, _, hst⟩, rfl, (HC6.out.belowB (B := w.heap.size) ?_ hbl).more (by omega), HK6.out.onB ?_⟩ <;> repeat' (first | (with_reducible exact Below.refl _ _) | (with_reducible assumption) | (with_reducible refine Below.alloc ?_ ?_ _) | (with_reducible refine Below.drew ?_) | (with_reducible refine Below.setCell ?_ ?_ _) | (with_reducible refine Below.stepB (by assumption) ?_ ?_) | go_size)
end Go.Proofs.Ytbgpmbaonjehbaa
