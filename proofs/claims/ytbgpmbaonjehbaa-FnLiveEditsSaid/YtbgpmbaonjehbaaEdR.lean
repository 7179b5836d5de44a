/- Contracts: the drawn arguments of the laws on edits. -/
import Derived.Test.YtbgpmbaonjehbaaEdQ
namespace Go.Proofs.Ytbgpmbaonjehbaa
open Go.RowKit
/-- a number of soundings and steps of one's own -/
def DrOut (w : World) (e : Ending) (w' : World) : Prop :=
  ∃ (marks : Int) (m b' c' : Nat) (f : Nat → ES), e = .returned (.tuple #[.int .i64 marks, .slice (some ⟨b', 0, none⟩) m c']) ∧ m ≤ 21 ∧ m ≤ c' ∧ Own w' w.heap.size 4 (some ⟨b', 0, none⟩) m (fun i j => (f i).cell j) ∧ Below w.heap.size w w'
theorem DrawIsEditList_any (n c : Nat) (A : Option Addr) (B : Nat → Int) (w : World) (hR : ∀ i, 0 ≤ B i ∧ B i ≤ 255) (hS : Sl w 1 A n (fun i _ => .int .u8 (B i))) (hn : n ≤ 65536) :
    Calls Try.prog 38 #[.slice A n c] w fun e w' => DrOut w e w' := by
  have HR := Lib.hid hR
  have HS := Lib.hid hS
  clear hR hS
  go_enter Try.func38, Try.ntmps38
  go_wp2_with fail
  refine (edits_any w.heap.size A n c 0 _ (curS_new (blk_newC w rfl) HR.out HS.out (by repeat' (first | (with_reducible exact Below.refl _ _) | (with_reducible assumption) | (with_reducible refine Below.alloc ?_ ?_ _) | (with_reducible refine Below.drew ?_) | (with_reducible refine Below.setCell ?_ ?_ _) | (with_reducible refine Below.stepB (by assumption) ?_ ?_) | go_size)) (Nat.le_refl _)) (by decide) (by omega)).mono ?_
  rintro e w1 ⟨marks, m, b1, c1, f, rfl, hm, hcap, hO, hD⟩
  have HB1 := Lib.hid ((show Below w.heap.size w _ from by repeat' (first | (with_reducible exact Below.refl _ _) | (with_reducible assumption) | (with_reducible refine Below.alloc ?_ ?_ _) | (with_reducible refine Below.drew ?_) | (with_reducible refine Below.setCell ?_ ?_ _) | (with_reducible refine Below.stepB (by assumption) ?_ ?_) | go_size)).trans (hD.2.lowB (B := w.heap.size) (by omega) (by first | omega | (simp; omega) | (simp; done))))
  have HO1 := Lib.hid (hO.more (lo' := w.heap.size + 1) (by simp; try omega))
  have HC1 := Lib.hid hD.1
  have hz1 := hD.2.size
  (try simp at hz1)
  clear hO hD
  go_wp2
  go_ret2
  exact ⟨marks, m, b1, c1, f, rfl, hm, hcap, HO1.out.more (by omega), HB1.out⟩
theorem DrawCleanSteps_any (n c : Nat) (A : Option Addr) (B : Nat → Int) (w : World) (hR : ∀ i, 0 ≤ B i ∧ B i ≤ 255) (hS : Sl w 1 A n (fun i _ => .int .u8 (B i))) (hn : n ≤ 65536) :
    Calls Try.prog 14 #[.slice A n c] w fun e w' => DrOut w e w' := by
  have HD := Lib.hid (fun W (hb : Below w.heap.size w W) => DrawIsEditList_any n c A B W hR (hS.below hb) hn)
  clear hR hS
  go_enter Try.func14, Try.ntmps14
  go_wp2_with fail
  refine (HD.out _ (Below.refl _ _)).mono ?_
  rintro e w1 ⟨marks, m, b1, c1, f, rfl, hm, hcap, hO, hb⟩
  have HO := Lib.hid hO
  clear hO
  go_wp2
  go_ret2
  exact ⟨marks, m, b1, c1, f, rfl, hm, hcap, HO.out, hb⟩
theorem DrawAcceptedAfter_any (n c : Nat) (A : Option Addr) (B : Nat → Int) (w : World) (hR : ∀ i, 0 ≤ B i ∧ B i ≤ 255) (hS : Sl w 1 A n (fun i _ => .int .u8 (B i))) (hn : n ≤ 65536) :
    Calls Try.prog 18 #[.slice A n c] w fun e w' => DrOut w e w' := by
  have HD := Lib.hid (fun W (hb : Below w.heap.size w W) => DrawIsEditList_any n c A B W hR (hS.below hb) hn)
  clear hR hS
  go_enter Try.func18, Try.ntmps18
  go_wp2_with fail
  refine (HD.out _ (Below.refl _ _)).mono ?_
  rintro e w1 ⟨marks, m, b1, c1, f, rfl, hm, hcap, hO, hb⟩
  have HO := Lib.hid hO
  clear hO
  go_wp2
  go_ret2
  exact ⟨marks, m, b1, c1, f, rfl, hm, hcap, HO.out, hb⟩
theorem DrawShiftsAfter_any (n c : Nat) (A : Option Addr) (B : Nat → Int) (w : World) (hR : ∀ i, 0 ≤ B i ∧ B i ≤ 255) (hS : Sl w 1 A n (fun i _ => .int .u8 (B i))) (hn : n ≤ 65536) :
    Calls Try.prog 20 #[.slice A n c] w fun e w' => DrOut w e w' := by
  have HD := Lib.hid (fun W (hb : Below w.heap.size w W) => DrawIsEditList_any n c A B W hR (hS.below hb) hn)
  clear hR hS
  go_enter Try.func20, Try.ntmps20
  go_wp2_with fail
  refine (HD.out _ (Below.refl _ _)).mono ?_
  rintro e w1 ⟨marks, m, b1, c1, f, rfl, hm, hcap, hO, hb⟩
  have HO := Lib.hid hO
  clear hO
  go_wp2
  go_ret2
  exact ⟨marks, m, b1, c1, f, rfl, hm, hcap, HO.out, hb⟩
theorem DrawLiveSteps_any (n c : Nat) (A : Option Addr) (B : Nat → Int) (w : World) (hR : ∀ i, 0 ≤ B i ∧ B i ≤ 255) (hS : Sl w 1 A n (fun i _ => .int .u8 (B i))) (hn : n ≤ 65536) :
    Calls Try.prog 22 #[.slice A n c] w fun e w' => DrOut w e w' := by
  have HD := Lib.hid (fun W (hb : Below w.heap.size w W) => DrawIsEditList_any n c A B W hR (hS.below hb) hn)
  clear hR hS
  go_enter Try.func22, Try.ntmps22
  go_wp2_with fail
  refine (HD.out _ (Below.refl _ _)).mono ?_
  rintro e w1 ⟨marks, m, b1, c1, f, rfl, hm, hcap, hO, hb⟩
  have HO := Lib.hid hO
  clear hO
  go_wp2
  go_ret2
  exact ⟨marks, m, b1, c1, f, rfl, hm, hcap, HO.out, hb⟩
theorem Own.farLo {w : World} {lo k n : Nat} {A : Option Addr} {g : Nat → Nat → Value} {p : Addr} (h : Own w lo k A n g) (hp : p.block < lo) (u : Value) : Own (w.setCell p u) lo k A n g := fun hn => by
  obtain ⟨b, t, cs, hA, hl, hB, hs, hc⟩ := h hn
  exact ⟨b, t, cs, hA, hl, hB.far (by omega) u, hs, hc⟩
/-- a number of soundings, steps of one's own and a step -/
def DrOut3 (w : World) (e : Ending) (w' : World) : Prop :=
  ∃ (marks : Int) (m b' c' : Nat) (f : Nat → ES) (s : ES), e = .returned (.tuple #[.int .i64 marks, .slice (some ⟨b', 0, none⟩) m c', .agg #[.int .i64 s.kind, .int .i64 s.mark, .int .i64 s.by_, .string ⟨s.reason.toArray⟩]]) ∧ m ≤ 21 ∧ m ≤ c' ∧ Own w' w.heap.size 4 (some ⟨b', 0, none⟩) m (fun i j => (f i).cell j) ∧ Below w.heap.size w w'
set_option maxRecDepth 100000 in
set_option maxHeartbeats 2000000 in
theorem DrawAppendStep_any (n c : Nat) (A : Option Addr) (B : Nat → Int) (w : World) (hR : ∀ i, 0 ≤ B i ∧ B i ≤ 255) (hS : Sl w 1 A n (fun i _ => .int .u8 (B i))) (hn : n ≤ 65536) :
    Calls Try.prog 6 #[.slice A n c] w fun e w' => DrOut3 w e w' := by
  have HR := Lib.hid hR
  have HS := Lib.hid hS
  clear hR hS
  go_enter Try.func6, Try.ntmps6
  go_wp2_with fail
  refine (edits_any (w.heap.size + 1) A n c 0 _ (curS_new (blk_newC (w.alloc (.cells #[.int .i64 0, .int .i64 0, .int .i64 0, .string ⟨#[]⟩] 26)) (by simp)) HR.out HS.out (by repeat' (first | (with_reducible exact Below.refl _ _) | (with_reducible assumption) | (with_reducible refine Below.alloc ?_ ?_ _) | (with_reducible refine Below.drew ?_) | (with_reducible refine Below.setCell ?_ ?_ _) | (with_reducible refine Below.stepB (by assumption) ?_ ?_) | go_size)) (by omega)) (by decide) (by omega)).mono ?_
  rintro e w1 ⟨marks, m, b1, c1, f, rfl, hm, hcap, hO, hD⟩
  have HB1 := Lib.hid ((show Below w.heap.size w _ from by repeat' (first | (with_reducible exact Below.refl _ _) | (with_reducible assumption) | (with_reducible refine Below.alloc ?_ ?_ _) | (with_reducible refine Below.drew ?_) | (with_reducible refine Below.setCell ?_ ?_ _) | (with_reducible refine Below.stepB (by assumption) ?_ ?_) | go_size)).trans (hD.2.lowB (B := w.heap.size) (by omega) (by first | omega | (simp; omega) | (simp; done))))
  have HO1 := Lib.hid (hO.more (lo' := w.heap.size + 1) (by simp; try omega))
  have HC1 := Lib.hid hD.1
  have hz1 := hD.2.size
  (try simp at hz1)
  have HT1 := Lib.hid (Blk.keptC ((blk_newC (g := w.heap.size) (t := 26) (cs := #[.int .i64 0, .int .i64 0, .int .i64 0, .string ⟨#[]⟩]) w rfl).alloc _) hD.2 (by omega))
  have HO2 := Lib.hid (hO.more (lo' := w.heap.size + 2) (by simp; try omega))
  clear hO hD HO1
  go_wp2_with fail
  refine (editStep_any (w.heap.size + 1) A n c 600 marks w1 HC1.out (by decide) (by omega)).mono ?_
  rintro e w2 ⟨s, rfl, hD⟩
  have HT2 := Lib.hid (Blk.keptC HT1.out hD.2 (by omega))
  have HO3 := Lib.hid (Own.keptC HO2.out hD.2 (by omega))
  have HB2 := Lib.hid (HB1.out.trans (hD.2.lowB (B := w.heap.size) (by omega) (by omega)))
  have hz2 := hD.2.size
  clear hD HO2 HB1 HC1 HT1
  have e0 : ∀ v0 : Value, (w2.setCell ⟨w.heap.size, 0, none⟩ v0).cell? ⟨w.heap.size, 0, none⟩ = some v0 := fun v0 => (HT2.out.set_ 0 v0).cell 0
  have e1 : ∀ v0 v1 : Value, ((w2.setCell ⟨w.heap.size, 0, none⟩ v0).setCell ⟨w.heap.size, 1, none⟩ v1).cell? ⟨w.heap.size, 1, none⟩ = some v1 := fun v0 v1 => ((HT2.out.set_ 0 v0).set_ 1 v1).cell 1
  have e2 : ∀ v0 v1 v2 : Value, (((w2.setCell ⟨w.heap.size, 0, none⟩ v0).setCell ⟨w.heap.size, 1, none⟩ v1).setCell ⟨w.heap.size, 2, none⟩ v2).cell? ⟨w.heap.size, 2, none⟩ = some v2 := fun v0 v1 v2 => (((HT2.out.set_ 0 v0).set_ 1 v1).set_ 2 v2).cell 2
  have e3 : ∀ v0 v1 v2 v3 : Value, ((((w2.setCell ⟨w.heap.size, 0, none⟩ v0).setCell ⟨w.heap.size, 1, none⟩ v1).setCell ⟨w.heap.size, 2, none⟩ v2).setCell ⟨w.heap.size, 3, none⟩ v3).cell? ⟨w.heap.size, 3, none⟩ = some v3 := fun v0 v1 v2 v3 => ((((HT2.out.set_ 0 v0).set_ 1 v1).set_ 2 v2).set_ 3 v3).cell 3
  have et0 : w2.cell? ⟨w.heap.size, 0, none⟩ = some (.int .i64 0) := HT2.out.cell 0
  have et1 : w2.cell? ⟨w.heap.size, 1, none⟩ = some (.int .i64 0) := HT2.out.cell 1
  have et2 : w2.cell? ⟨w.heap.size, 2, none⟩ = some (.int .i64 0) := HT2.out.cell 2
  have et3 : w2.cell? ⟨w.heap.size, 3, none⟩ = some (.string ⟨#[]⟩) := HT2.out.cell 3
  have etf := HT2.out.frozen
  have etl := HT2.out.lt
  go_wp2
  (try simp only [Exit.inBlock, Exit.then])
  refine bodyPost_ret (by simp [results, Try.results6, go_sem, e0, e1, e2, e3]; try rfl) rfl ?_
  have hb := HB2.out
  refine ⟨marks, m, b1, c1, f, s, rfl, hm, hcap, ?_, by repeat' (first | (with_reducible exact Below.refl _ _) | (with_reducible assumption) | (with_reducible refine Below.alloc ?_ ?_ _) | (with_reducible refine Below.drew ?_) | (with_reducible refine Below.setCell ?_ ?_ _) | (with_reducible refine Below.stepB (by assumption) ?_ ?_) | go_size)⟩
  refine Own.more (lo := w.heap.size + 2) ?_ (by omega)
  repeat' (first | exact HO3.out | refine Own.farLo ?_ (by show w.heap.size < w.heap.size + 2; omega) _)
def DrOutR (w : World) (e : Ending) (w' : World) : Prop :=
  ∃ (marks : Int) (m b' c' : Nat) (f : Nat → ES) (x : Int), e = .returned (.tuple #[.int .i64 marks, .slice (some ⟨b', 0, none⟩) m c', .int .i64 x]) ∧ m ≤ 21 ∧ m ≤ c' ∧ Own w' w.heap.size 4 (some ⟨b', 0, none⟩) m (fun i j => (f i).cell j) ∧ Below w.heap.size w w'
set_option maxRecDepth 100000 in
set_option maxHeartbeats 2000000 in
theorem DrawReasonsFor_any (n c : Nat) (A : Option Addr) (B : Nat → Int) (w : World) (hR : ∀ i, 0 ≤ B i ∧ B i ≤ 255) (hS : Sl w 1 A n (fun i _ => .int .u8 (B i))) (hn : n ≤ 65536) :
    Calls Try.prog 31 #[.slice A n c] w fun e w' => DrOutR w e w' := by
  have HR := Lib.hid hR
  have HS := Lib.hid hS
  clear hR hS
  go_enter Try.func31, Try.ntmps31
  go_wp2_with fail
  refine (edits_any w.heap.size A n c 0 _ (curS_new (blk_newC w rfl) HR.out HS.out (by repeat' (first | (with_reducible exact Below.refl _ _) | (with_reducible assumption) | (with_reducible refine Below.alloc ?_ ?_ _) | (with_reducible refine Below.drew ?_) | (with_reducible refine Below.setCell ?_ ?_ _) | (with_reducible refine Below.stepB (by assumption) ?_ ?_) | go_size)) (Nat.le_refl _)) (by decide) (by omega)).mono ?_
  rintro e w1 ⟨marks, m, b1, c1, f, rfl, hm, hcap, hO, hD⟩
  have HB1 := Lib.hid ((show Below w.heap.size w _ from by repeat' (first | (with_reducible exact Below.refl _ _) | (with_reducible assumption) | (with_reducible refine Below.alloc ?_ ?_ _) | (with_reducible refine Below.drew ?_) | (with_reducible refine Below.setCell ?_ ?_ _) | (with_reducible refine Below.stepB (by assumption) ?_ ?_) | go_size)).trans (hD.2.lowB (B := w.heap.size) (by omega) (by first | omega | (simp; omega) | (simp; done))))
  have HO1 := Lib.hid (hO.more (lo' := w.heap.size + 1) (by simp; try omega))
  have HC1 := Lib.hid hD.1
  have hz1 := hD.2.size
  (try simp at hz1)
  clear hO hD
  go_wp2_with fail
  refine (pick_any w.heap.size A n c 600 24 _ (HC1.out.below (by repeat' (first | (with_reducible exact Below.refl _ _) | (with_reducible assumption) | (with_reducible refine Below.alloc ?_ ?_ _) | (with_reducible refine Below.drew ?_) | (with_reducible refine Below.setCell ?_ ?_ _) | (with_reducible refine Below.stepB (by assumption) ?_ ?_) | go_size))) (by decide) (by omega) (by decide)).mono ?_
  rintro e w2 ⟨x, rfl, x0, x1, hD⟩
  have hx : x < 24 := by omega
  have HL2 := Lib.hid (Blk.keptC (blk_newC (g := w1.heap.size) (t := 3) (cs := (([0, 0, 1, 2, wrap64 (marks - 1), marks, -1] : List Int).map (Value.int .i64)).toArray) w1 rfl) hD.2 (by omega))
  have HO2 := Lib.hid (Own.keptC (HO1.out.allocd _) hD.2 (by omega))
  have HB2 := Lib.hid ((show Below w.heap.size w _ from Below.alloc HB1.out (by omega) _).trans (hD.2.lowB (Nat.le_refl _) (by simp; omega)))
  have HC2 := Lib.hid hD.1
  have hz2 := hD.2.size
  (try simp at hz2)
  clear hD
  go_wp2_with fail
  refine (among_any w.heap.size A n c (600 + 2) w1.heap.size (5 + x / 11).toNat 7 [0, 0, 1, 2, wrap64 (marks - 1), marks, -1] w2 HC2.out (by decide) (by omega) HL2.out (by omega) (by omega) (by simp; omega) (by simp)).mono ?_
  rintro e w3 ⟨mark, rfl, hD⟩
  have HO3 := Lib.hid (Own.keptC HO2.out hD.2 (by omega))
  have HB3 := Lib.hid (HB2.out.trans (hD.2.lowB (Nat.le_refl _) (by omega)))
  have HC3 := Lib.hid hD.1
  have hz3 := hD.2.size
  clear hD
  clear HL2 HO2 HB2 HC2 hx x0 x1
  go_wp2
  go_ret3
  exact ⟨marks, m, b1, c1, f, mark, rfl, hm, hcap, HO3.out.more (by omega), HB3.out⟩
end Go.Proofs.Ytbgpmbaonjehbaa
