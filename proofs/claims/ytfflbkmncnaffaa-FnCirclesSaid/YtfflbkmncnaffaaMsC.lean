/- Contracts: the drawn arguments of the laws on meshes. -/
import Derived.Test.YtfflbkmncnaffaaMsB
namespace Go.Proofs.Ytfflbkmncnaffaa
open Go.RowKit
theorem Own.farM {w : World} {lo k n : Nat} {A : Option Addr} {g : Nat → Nat → Value} (h : Own w lo k A n g) {p : Addr} (hp : p.block < lo) (u : Value) : Own (w.setCell p u) lo k A n g := fun hn => by
  obtain ⟨b, t, cs, hA, hl, hB, hs, hc⟩ := h hn
  exact ⟨b, t, cs, hA, hl, hB.far (by omega) u, hs, hc⟩
theorem DrawIsMesh_any (n c : Nat) (A : Option Addr) (B : Nat → Int) (w : World) (hR : ∀ i, 0 ≤ B i ∧ B i ≤ 255) (hS : Sl w 1 A n (fun i _ => .int .u8 (B i))) (hn : n ≤ 65536) :
    Calls Try.prog 94 #[.slice A n c] w fun e w' => ∃ (p b1 c1 : Nat) (S : Nat → SP) (m b2 c2 : Nat) (T : Nat → Nat → Int), e = .returned (.tuple #[.slice (some ⟨b1, 0, none⟩) p c1, .slice (some ⟨b2, 0, none⟩) m c2]) ∧ p ≤ 6 ∧ p ≤ c1 ∧ m ≤ 9 ∧ m ≤ c2 ∧ SlSP w' (some ⟨b1, 0, none⟩) p S ∧ SlT w' (some ⟨b2, 0, none⟩) m T ∧ Below w.heap.size w w' := by
  have HR := Lib.hid hR
  have HS := Lib.hid hS
  clear hR hS
  go_enter Try.func94, Try.ntmps94
  go_wp2_with fail
  refine (mesh_any w.heap.size A n c 0 _ (curS_new (blk_newC w rfl) HR.out HS.out (by repeat' (first | (with_reducible exact Below.refl _ _) | (with_reducible assumption) | (with_reducible refine Below.alloc ?_ ?_ _) | (with_reducible refine Below.drew ?_) | (with_reducible refine Below.setCell ?_ ?_ _) | (with_reducible refine Below.stepB (by assumption) ?_ ?_) | go_size)) (Nat.le_refl _)) (by decide) (by omega)).mono ?_
  rintro e w1 ⟨p, b1, c1, S, m, b2, c2, T, rfl, hp, hpc, hm, hmc, hO, hP, hD⟩
  have HB1 := Lib.hid ((show Below w.heap.size w _ from by repeat' (first | (with_reducible exact Below.refl _ _) | (with_reducible assumption) | (with_reducible refine Below.alloc ?_ ?_ _) | (with_reducible refine Below.drew ?_) | (with_reducible refine Below.setCell ?_ ?_ _) | (with_reducible refine Below.stepB (by assumption) ?_ ?_) | go_size)).trans (hD.2.lowB (Nat.le_refl _) (by simp)))
  have HO1 := Lib.hid (hO.more (lo' := w.heap.size + 1) (by simp))
  have HP1 := Lib.hid (hP.more (lo' := w.heap.size + 1) (by simp))
  have HC1 := Lib.hid hD.1
  have hz1 := hD.2.size
  (try simp at hz1)
  clear hO hP hD
  go_wp2
  go_ret2
  exact ⟨p, b1, c1, S, m, b2, c2, T, rfl, hp, hpc, hm, hmc, HO1.out.sl, HP1.out.sl, HB1.out⟩
theorem DrawAreaOf_any (n c : Nat) (A : Option Addr) (B : Nat → Int) (w : World) (hR : ∀ i, 0 ≤ B i ∧ B i ≤ 255) (hS : Sl w 1 A n (fun i _ => .int .u8 (B i))) (hn : n ≤ 65536) :
    Calls Try.prog 29 #[.slice A n c] w fun e w' => ∃ (p b1 c1 : Nat) (S : Nat → SP) (m b2 c2 : Nat) (T : Nat → Nat → Int), e = .returned (.tuple #[.slice (some ⟨b1, 0, none⟩) p c1, .slice (some ⟨b2, 0, none⟩) m c2]) ∧ p ≤ 6 ∧ p ≤ c1 ∧ m ≤ 9 ∧ m ≤ c2 ∧ SlSP w' (some ⟨b1, 0, none⟩) p S ∧ SlT w' (some ⟨b2, 0, none⟩) m T ∧ Below w.heap.size w w' := by
  have HD := Lib.hid (DrawIsMesh_any n c A B w hR hS hn)
  clear hR hS
  go_enter Try.func29, Try.ntmps29
  go_wp2_with fail
  refine HD.out.mono ?_
  rintro e w1 ⟨p, b1, c1, S, m, b2, c2, T, rfl, hp, hpc, hm, hmc, hO, hP, hB⟩
  have HO1 := Lib.hid hO
  have HP1 := Lib.hid hP
  have HB1 := Lib.hid hB
  clear hO hP hB
  go_wp2
  go_ret2
  exact ⟨p, b1, c1, S, m, b2, c2, T, rfl, hp, hpc, hm, hmc, HO1.out, HP1.out, HB1.out⟩
theorem DrawBadPairs_any (n c : Nat) (A : Option Addr) (B : Nat → Int) (w : World) (hR : ∀ i, 0 ≤ B i ∧ B i ≤ 255) (hS : Sl w 1 A n (fun i _ => .int .u8 (B i))) (hn : n ≤ 65536) :
    Calls Try.prog 35 #[.slice A n c] w fun e w' => ∃ (p b1 c1 : Nat) (S : Nat → SP) (m b2 c2 : Nat) (T : Nat → Nat → Int), e = .returned (.tuple #[.slice (some ⟨b1, 0, none⟩) p c1, .slice (some ⟨b2, 0, none⟩) m c2]) ∧ p ≤ 6 ∧ p ≤ c1 ∧ m ≤ 9 ∧ m ≤ c2 ∧ SlSP w' (some ⟨b1, 0, none⟩) p S ∧ SlT w' (some ⟨b2, 0, none⟩) m T ∧ Below w.heap.size w w' := by
  have HD := Lib.hid (DrawIsMesh_any n c A B w hR hS hn)
  clear hR hS
  go_enter Try.func35, Try.ntmps35
  go_wp2_with fail
  refine HD.out.mono ?_
  rintro e w1 ⟨p, b1, c1, S, m, b2, c2, T, rfl, hp, hpc, hm, hmc, hO, hP, hB⟩
  have HO1 := Lib.hid hO
  have HP1 := Lib.hid hP
  have HB1 := Lib.hid hB
  clear hO hP hB
  go_wp2
  go_ret2
  exact ⟨p, b1, c1, S, m, b2, c2, T, rfl, hp, hpc, hm, hmc, HO1.out, HP1.out, HB1.out⟩
theorem DrawTriangleAt_any (n c : Nat) (A : Option Addr) (B : Nat → Int) (w : World) (hR : ∀ i, 0 ≤ B i ∧ B i ≤ 255) (hS : Sl w 1 A n (fun i _ => .int .u8 (B i))) (hn : n ≤ 65536) :
    Calls Try.prog 32 #[.slice A n c] w fun e w' => ∃ (p b1 c1 : Nat) (S : Nat → SP) (m b2 c2 : Nat) (T : Nat → Nat → Int) (x y : Int), e = .returned (.tuple #[.slice (some ⟨b1, 0, none⟩) p c1, .slice (some ⟨b2, 0, none⟩) m c2, .agg #[.int .i64 x, .int .i64 y]]) ∧ p ≤ 6 ∧ p ≤ c1 ∧ m ≤ 9 ∧ m ≤ c2 ∧ SlSP w' (some ⟨b1, 0, none⟩) p S ∧ SlT w' (some ⟨b2, 0, none⟩) m T ∧ Below w.heap.size w w' := by
  have HR := Lib.hid hR
  have HS := Lib.hid hS
  clear hR hS
  go_enter Try.func32, Try.ntmps32
  go_wp2_with fail
  refine (mesh_any (w.heap.size + 1) A n c 0 _ (curS_new (blk_newC (w.alloc (.cells #[.int .i64 0, .int .i64 0] 26)) (by simp)) HR.out HS.out (by repeat' (first | (with_reducible exact Below.refl _ _) | (with_reducible assumption) | (with_reducible refine Below.alloc ?_ ?_ _) | (with_reducible refine Below.drew ?_) | (with_reducible refine Below.setCell ?_ ?_ _) | (with_reducible refine Below.stepB (by assumption) ?_ ?_) | go_size)) (by omega)) (by decide) (by omega)).mono ?_
  rintro e w1 ⟨p, b1, c1, S, m, b2, c2, T, rfl, hp, hpc, hm, hmc, hO, hP, hD⟩
  have HT1 := Lib.hid (Blk.keptC ((blk_newC (g := w.heap.size) (t := 26) (cs := #[.int .i64 0, .int .i64 0]) w rfl).alloc _) hD.2 (by omega))
  have HB1 := Lib.hid ((show Below w.heap.size w _ from by repeat' (first | (with_reducible exact Below.refl _ _) | (with_reducible assumption) | (with_reducible refine Below.alloc ?_ ?_ _) | (with_reducible refine Below.drew ?_) | (with_reducible refine Below.setCell ?_ ?_ _) | (with_reducible refine Below.stepB (by assumption) ?_ ?_) | go_size)).trans (hD.2.lowB (B := w.heap.size) (by omega) (by simp; omega)))
  have HO1 := Lib.hid (hO.more (lo' := w.heap.size + 2) (by simp))
  have HP1 := Lib.hid (hP.more (lo' := w.heap.size + 2) (by simp))
  have HC1 := Lib.hid hD.1
  have hz1 := hD.2.size
  (try simp at hz1)
  clear hO hP hD
  go_wp2_with fail
  refine (near15_any (w.heap.size + 1) A n c 100 w1 HC1.out (by decide) (by omega)).mono ?_
  rintro e w2 ⟨x, y, rfl, hD⟩
  have HT2 := Lib.hid (Blk.keptC HT1.out hD.2 (by omega))
  have HO2 := Lib.hid (Own.keptC HO1.out hD.2 (by omega))
  have HP2 := Lib.hid (Own.keptC HP1.out hD.2 (by omega))
  have HB2 := Lib.hid (HB1.out.trans (hD.2.lowB (B := w.heap.size) (by omega) (by omega)))
  have HC2 := Lib.hid hD.1
  have hz2 := hD.2.size
  clear hD
  have e0 : ∀ v, (w2.setCell ⟨w.heap.size, 0, none⟩ v).cell? ⟨w.heap.size, 0, none⟩ = some v := fun v => (HT2.out.set_ 0 v).cell 0
  have e1 : ∀ v u, ((w2.setCell ⟨w.heap.size, 0, none⟩ v).setCell ⟨w.heap.size, 1, none⟩ u).cell? ⟨w.heap.size, 1, none⟩ = some u := fun v u => ((HT2.out.set_ 0 v).set_ 1 u).cell 1
  have t0 : w2.cell? ⟨w.heap.size, 0, none⟩ = some (.int .i64 0) := HT2.out.cell 0
  have t1 : w2.cell? ⟨w.heap.size, 1, none⟩ = some (.int .i64 0) := HT2.out.cell 1
  have tf := HT2.out.frozen
  have tl := HT2.out.lt
  go_wp2
  (try simp only [Exit.inBlock, Exit.then])
  refine bodyPost_ret (by simp [results, Try.results32, go_sem, e0, e1]; try rfl) rfl ?_
  have hb := HB2.out
  refine ⟨p, b1, c1, S, m, b2, c2, T, x, y, rfl, hp, hpc, hm, hmc, ((HO2.out.farM (by show w.heap.size < _; omega) _).farM (by show w.heap.size < _; omega) _).sl, ((HP2.out.farM (by show w.heap.size < _; omega) _).farM (by show w.heap.size < _; omega) _).sl, ?_⟩
  repeat' (first | (with_reducible exact Below.refl _ _) | (with_reducible assumption) | (with_reducible refine Below.alloc ?_ ?_ _) | (with_reducible refine Below.drew ?_) | (with_reducible refine Below.setCell ?_ ?_ _) | (with_reducible refine Below.stepB (by assumption) ?_ ?_) | go_size)
theorem DrawDepthAt_any (n c : Nat) (A : Option Addr) (B : Nat → Int) (w : World) (hR : ∀ i, 0 ≤ B i ∧ B i ≤ 255) (hS : Sl w 1 A n (fun i _ => .int .u8 (B i))) (hn : n ≤ 65536) :
    Calls Try.prog 18 #[.slice A n c] w fun e w' => ∃ (p b1 c1 : Nat) (S : Nat → SP) (m b2 c2 : Nat) (T : Nat → Nat → Int) (d b3 c3 : Nat) (L : Nat → Int) (x y : Int), e = .returned (.tuple #[.slice (some ⟨b1, 0, none⟩) p c1, .slice (some ⟨b2, 0, none⟩) m c2, .slice (some ⟨b3, 0, none⟩) d c3, .agg #[.int .i64 x, .int .i64 y]]) ∧ p ≤ 6 ∧ p ≤ c1 ∧ m ≤ 9 ∧ m ≤ c2 ∧ SlSP w' (some ⟨b1, 0, none⟩) p S ∧ SlT w' (some ⟨b2, 0, none⟩) m T ∧ d ≤ 21 ∧ SlI w' (some ⟨b3, 0, none⟩) d L ∧ Below w.heap.size w w' := by
  have HR := Lib.hid hR
  have HS := Lib.hid hS
  clear hR hS
  go_enter Try.func18, Try.ntmps18
  go_wp2_with fail
  refine (mesh_any (w.heap.size + 1) A n c 0 _ (curS_new (blk_newC (w.alloc (.cells #[.int .i64 0, .int .i64 0] 26)) (by simp)) HR.out HS.out (by repeat' (first | (with_reducible exact Below.refl _ _) | (with_reducible assumption) | (with_reducible refine Below.alloc ?_ ?_ _) | (with_reducible refine Below.drew ?_) | (with_reducible refine Below.setCell ?_ ?_ _) | (with_reducible refine Below.stepB (by assumption) ?_ ?_) | go_size)) (by omega)) (by decide) (by omega)).mono ?_
  rintro e w1 ⟨p, b1, c1, S, m, b2, c2, T, rfl, hp, hpc, hm, hmc, hO, hP, hD⟩
  have HT1 := Lib.hid (Blk.keptC ((blk_newC (g := w.heap.size) (t := 26) (cs := #[.int .i64 0, .int .i64 0]) w rfl).alloc _) hD.2 (by omega))
  have HB1 := Lib.hid ((show Below w.heap.size w _ from by repeat' (first | (with_reducible exact Below.refl _ _) | (with_reducible assumption) | (with_reducible refine Below.alloc ?_ ?_ _) | (with_reducible refine Below.drew ?_) | (with_reducible refine Below.setCell ?_ ?_ _) | (with_reducible refine Below.stepB (by assumption) ?_ ?_) | go_size)).trans (hD.2.lowB (B := w.heap.size) (by omega) (by simp; omega)))
  have HO1 := Lib.hid (hO.more (lo' := w.heap.size + 2) (by simp))
  have HP1 := Lib.hid (hP.more (lo' := w.heap.size + 2) (by simp))
  have HC1 := Lib.hid hD.1
  have hz1 := hD.2.size
  (try simp at hz1)
  clear hO hP hD
  go_wp2_with fail
  refine (depths15_any (w.heap.size + 1) A n c 100 (some ⟨b1, 0, none⟩) p c1 w1 HC1.out (by decide) (by omega) (by omega)).mono ?_
  rintro e w2 ⟨d, b3, c3, L, rfl, hd, hdc, hQ, hD⟩
  have HT2 := Lib.hid (Blk.keptC HT1.out hD.2 (by omega))
  have HO2 := Lib.hid (Own.keptC HO1.out hD.2 (by omega))
  have HP2 := Lib.hid (Own.keptC HP1.out hD.2 (by omega))
  have HB2 := Lib.hid (HB1.out.trans (hD.2.lowB (B := w.heap.size) (by omega) (by omega)))
  have HC2 := Lib.hid hD.1
  have hz2 := hD.2.size
  have HQ2 := Lib.hid (Own.more hQ (lo' := w.heap.size + 2) (by omega))
  clear hD hQ
  go_wp2_with fail
  refine (near15_any (w.heap.size + 1) A n c 150 w2 HC2.out (by decide) (by omega)).mono ?_
  rintro e w3 ⟨x, y, rfl, hD⟩
  have HT3 := Lib.hid (Blk.keptC HT2.out hD.2 (by omega))
  have HQ3 := Lib.hid (Own.keptC HQ2.out hD.2 (by omega))
  have HO3 := Lib.hid (Own.keptC HO2.out hD.2 (by omega))
  have HP3 := Lib.hid (Own.keptC HP2.out hD.2 (by omega))
  have HB3 := Lib.hid (HB2.out.trans (hD.2.lowB (B := w.heap.size) (by omega) (by omega)))
  have HC3 := Lib.hid hD.1
  have hz3 := hD.2.size
  clear hD
  have e0 : ∀ v, (w3.setCell ⟨w.heap.size, 0, none⟩ v).cell? ⟨w.heap.size, 0, none⟩ = some v := fun v => (HT3.out.set_ 0 v).cell 0
  have e1 : ∀ v u, ((w3.setCell ⟨w.heap.size, 0, none⟩ v).setCell ⟨w.heap.size, 1, none⟩ u).cell? ⟨w.heap.size, 1, none⟩ = some u := fun v u => ((HT3.out.set_ 0 v).set_ 1 u).cell 1
  have t0 : w3.cell? ⟨w.heap.size, 0, none⟩ = some (.int .i64 0) := HT3.out.cell 0
  have t1 : w3.cell? ⟨w.heap.size, 1, none⟩ = some (.int .i64 0) := HT3.out.cell 1
  have tf := HT3.out.frozen
  have tl := HT3.out.lt
  go_wp2
  (try simp only [Exit.inBlock, Exit.then])
  refine bodyPost_ret (by simp [results, Try.results18, go_sem, e0, e1]; try rfl) rfl ?_
  have hb := HB3.out
  refine ⟨p, b1, c1, S, m, b2, c2, T, d, b3, c3, L, x, y, rfl, hp, hpc, hm, hmc, ((HO3.out.farM (by show w.heap.size < _; omega) _).farM (by show w.heap.size < _; omega) _).sl, ((HP3.out.farM (by show w.heap.size < _; omega) _).farM (by show w.heap.size < _; omega) _).sl, hd, ((HQ3.out.farM (by show w.heap.size < _; omega) _).farM (by show w.heap.size < _; omega) _).sl, ?_⟩
  repeat' (first | (with_reducible exact Below.refl _ _) | (with_reducible assumption) | (with_reducible refine Below.alloc ?_ ?_ _) | (with_reducible refine Below.drew ?_) | (with_reducible refine Below.setCell ?_ ?_ _) | (with_reducible refine Below.stepB (by assumption) ?_ ?_) | go_size)
theorem DrawNeighborsOf_any (n c : Nat) (A : Option Addr) (B : Nat → Int) (w : World) (hR : ∀ i, 0 ≤ B i ∧ B i ≤ 255) (hS : Sl w 1 A n (fun i _ => .int .u8 (B i))) (hn : n ≤ 65536) :
    Calls Try.prog 24 #[.slice A n c] w fun e w' => ∃ (p b1 c1 : Nat) (S : Nat → SP) (m b2 c2 : Nat) (T : Nat → Nat → Int) (t : Int), e = .returned (.tuple #[.slice (some ⟨b1, 0, none⟩) p c1, .slice (some ⟨b2, 0, none⟩) m c2, .int .i64 t]) ∧ p ≤ 6 ∧ p ≤ c1 ∧ m ≤ 9 ∧ m ≤ c2 ∧ SlSP w' (some ⟨b1, 0, none⟩) p S ∧ SlT w' (some ⟨b2, 0, none⟩) m T ∧ Below w.heap.size w w' := by
  have HR := Lib.hid hR
  have HS := Lib.hid hS
  clear hR hS
  go_enter Try.func24, Try.ntmps24
  go_wp2_with fail
  refine (mesh_any w.heap.size A n c 0 _ (curS_new (blk_newC w rfl) HR.out HS.out (by repeat' (first | (with_reducible exact Below.refl _ _) | (with_reducible assumption) | (with_reducible refine Below.alloc ?_ ?_ _) | (with_reducible refine Below.drew ?_) | (with_reducible refine Below.setCell ?_ ?_ _) | (with_reducible refine Below.stepB (by assumption) ?_ ?_) | go_size)) (Nat.le_refl _)) (by decide) (by omega)).mono ?_
  rintro e w1 ⟨p, b1, c1, S, m, b2, c2, T, rfl, hp, hpc, hm, hmc, hO, hP, hD⟩
  have HB1 := Lib.hid ((show Below w.heap.size w _ from by repeat' (first | (with_reducible exact Below.refl _ _) | (with_reducible assumption) | (with_reducible refine Below.alloc ?_ ?_ _) | (with_reducible refine Below.drew ?_) | (with_reducible refine Below.setCell ?_ ?_ _) | (with_reducible refine Below.stepB (by assumption) ?_ ?_) | go_size)).trans (hD.2.lowB (Nat.le_refl _) (by simp)))
  have HO1 := Lib.hid (hO.more (lo' := w.heap.size + 1) (by simp))
  have HP1 := Lib.hid (hP.more (lo' := w.heap.size + 1) (by simp))
  have HC1 := Lib.hid hD.1
  have hz1 := hD.2.size
  (try simp at hz1)
  clear hO hP hD
  have hm2 : (m : Int) ≤ 9 := by omega
  go_wp2_with fail
  refine (pick_any w.heap.size A n c 100 ((m : Int) + 1) _ (HC1.out.below (by repeat' (first | (with_reducible exact Below.refl _ _) | (with_reducible assumption) | (with_reducible refine Below.alloc ?_ ?_ _) | (with_reducible refine Below.drew ?_) | (with_reducible refine Below.setCell ?_ ?_ _) | (with_reducible refine Below.stepB (by assumption) ?_ ?_) | go_size))) (by decide) (by omega) (by omega)).mono ?_
  rintro e w2 ⟨x, rfl, x0, x1, hD⟩
  have HO2 := Lib.hid (Own.keptC HO1.out hD.2 (by omega))
  have HP2 := Lib.hid (Own.keptC HP1.out hD.2 (by omega))
  have HB2 := Lib.hid (HB1.out.trans (hD.2.lowB (B := w.heap.size) (by omega) (by omega)))
  have HC2 := Lib.hid hD.1
  have hz2 := hD.2.size
  have hx : x ≤ 9 := by omega
  clear hD x1
  go_wp2_with fail
  refine (pick_any w.heap.size A n c 102 9 _ HC2.out (by decide) (by omega) (by decide)).mono ?_
  rintro e w3 ⟨y, rfl, y0, y1, hD⟩
  have HO3 := Lib.hid (Own.keptC HO2.out hD.2 (by omega))
  have HP3 := Lib.hid (Own.keptC HP2.out hD.2 (by omega))
  have HB3 := Lib.hid (HB2.out.trans (hD.2.lowB (B := w.heap.size) (by omega) (by omega)))
  have HC3 := Lib.hid hD.1
  have hz3 := hD.2.size
  have hy : y ≤ 8 := by omega
  clear hD y1
  go_wp2
  go_ret3
  exact ⟨p, b1, c1, S, m, b2, c2, T, _, rfl, hp, hpc, hm, hmc, HO3.out.sl, HP3.out.sl, HB3.out⟩
theorem DrawShoalestCorner_any (n c : Nat) (A : Option Addr) (B : Nat → Int) (w : World) (hR : ∀ i, 0 ≤ B i ∧ B i ≤ 255) (hS : Sl w 1 A n (fun i _ => .int .u8 (B i))) (hn : n ≤ 65536) :
    Calls Try.prog 42 #[.slice A n c] w fun e w' => ∃ (p b1 c1 : Nat) (S : Nat → SP) (m b2 c2 : Nat) (T : Nat → Nat → Int) (d b3 c3 : Nat) (L : Nat → Int) (t : Int), e = .returned (.tuple #[.slice (some ⟨b1, 0, none⟩) p c1, .slice (some ⟨b2, 0, none⟩) m c2, .slice (some ⟨b3, 0, none⟩) d c3, .int .i64 t]) ∧ p ≤ 6 ∧ p ≤ c1 ∧ m ≤ 9 ∧ m ≤ c2 ∧ SlSP w' (some ⟨b1, 0, none⟩) p S ∧ SlT w' (some ⟨b2, 0, none⟩) m T ∧ d ≤ 21 ∧ SlI w' (some ⟨b3, 0, none⟩) d L ∧ Below w.heap.size w w' := by
  have HR := Lib.hid hR
  have HS := Lib.hid hS
  clear hR hS
  go_enter Try.func42, Try.ntmps42
  go_wp2_with fail
  refine (mesh_any w.heap.size A n c 0 _ (curS_new (blk_newC w rfl) HR.out HS.out (by repeat' (first | (with_reducible exact Below.refl _ _) | (with_reducible assumption) | (with_reducible refine Below.alloc ?_ ?_ _) | (with_reducible refine Below.drew ?_) | (with_reducible refine Below.setCell ?_ ?_ _) | (with_reducible refine Below.stepB (by assumption) ?_ ?_) | go_size)) (Nat.le_refl _)) (by decide) (by omega)).mono ?_
  rintro e w1 ⟨p, b1, c1, S, m, b2, c2, T, rfl, hp, hpc, hm, hmc, hO, hP, hD⟩
  have HB1 := Lib.hid ((show Below w.heap.size w _ from by repeat' (first | (with_reducible exact Below.refl _ _) | (with_reducible assumption) | (with_reducible refine Below.alloc ?_ ?_ _) | (with_reducible refine Below.drew ?_) | (with_reducible refine Below.setCell ?_ ?_ _) | (with_reducible refine Below.stepB (by assumption) ?_ ?_) | go_size)).trans (hD.2.lowB (Nat.le_refl _) (by simp)))
  have HO1 := Lib.hid (hO.more (lo' := w.heap.size + 1) (by simp))
  have HP1 := Lib.hid (hP.more (lo' := w.heap.size + 1) (by simp))
  have HC1 := Lib.hid hD.1
  have hz1 := hD.2.size
  (try simp at hz1)
  clear hO hP hD
  have hm2 : (m : Int) ≤ 9 := by omega
  go_wp2_with fail
  refine (depths15_any w.heap.size A n c 100 (some ⟨b1, 0, none⟩) p c1 w1 HC1.out (by decide) (by omega) (by omega)).mono ?_
  rintro e w2 ⟨d, b3, c3, L, rfl, hd, hdc, hQ, hD⟩
  have HO2 := Lib.hid (Own.keptC HO1.out hD.2 (by omega))
  have HP2 := Lib.hid (Own.keptC HP1.out hD.2 (by omega))
  have HB2 := Lib.hid (HB1.out.trans (hD.2.lowB (B := w.heap.size) (by omega) (by omega)))
  have HC2 := Lib.hid hD.1
  have hz2 := hD.2.size
  have HQ2 := Lib.hid (Own.more hQ (lo' := w.heap.size + 1) (by omega))
  clear hD hQ
  go_wp2_with fail
  refine (pick_any w.heap.size A n c 150 ((m : Int) + 1) _ (HC2.out.below (by repeat' (first | (with_reducible exact Below.refl _ _) | (with_reducible assumption) | (with_reducible refine Below.alloc ?_ ?_ _) | (with_reducible refine Below.drew ?_) | (with_reducible refine Below.setCell ?_ ?_ _) | (with_reducible refine Below.stepB (by assumption) ?_ ?_) | go_size))) (by decide) (by omega) (by omega)).mono ?_
  rintro e w3 ⟨x, rfl, x0, x1, hD⟩
  have HO3 := Lib.hid (Own.keptC HO2.out hD.2 (by omega))
  have HP3 := Lib.hid (Own.keptC HP2.out hD.2 (by omega))
  have HB3 := Lib.hid (HB2.out.trans (hD.2.lowB (B := w.heap.size) (by omega) (by omega)))
  have HC3 := Lib.hid hD.1
  have hz3 := hD.2.size
  have HQ3 := Lib.hid (Own.keptC HQ2.out hD.2 (by omega))
  have hx : x ≤ 9 := by omega
  clear hD x1
  go_wp2_with fail
  refine (pick_any w.heap.size A n c 152 9 _ HC3.out (by decide) (by omega) (by decide)).mono ?_
  rintro e w4 ⟨y, rfl, y0, y1, hD⟩
  have HO4 := Lib.hid (Own.keptC HO3.out hD.2 (by omega))
  have HP4 := Lib.hid (Own.keptC HP3.out hD.2 (by omega))
  have HB4 := Lib.hid (HB3.out.trans (hD.2.lowB (B := w.heap.size) (by omega) (by omega)))
  have HC4 := Lib.hid hD.1
  have hz4 := hD.2.size
  have HQ4 := Lib.hid (Own.keptC HQ3.out hD.2 (by omega))
  have hy : y ≤ 8 := by omega
  clear hD y1
  go_wp2
  refine bodyPost_ret (results_tmp4 rfl _ _ _) rfl ?_
  exact ⟨p, b1, c1, S, m, b2, c2, T, d, b3, c3, L, _, rfl, hp, hpc, hm, hmc, HO4.out.sl, HP4.out.sl, hd, HQ4.out.sl, HB4.out⟩
end Go.Proofs.Ytfflbkmncnaffaa
