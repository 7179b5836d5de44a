/- Contracts: the depth at a spot: no triangle; the whole functions. -/
import Derived.Test.YtfflbkmncnaffaaPlaneB
namespace Go.Proofs.Ytfflbkmncnaffaa
open Go.RowKit
theorem depthAt_no (A : Option Addr) (n c : Nat) (S : Nat → SP) (A2 : Option Addr) (m c2 : Nat) (T : Nat → Nat → Int) (A3 : Option Addr) (c3 : Nat) (p : SP) (w : World) (hS : SlSP w A n S) (hS2 : SlT w A2 m T) (hn : n ≤ 1048576) (hm : m ≤ 1048576)
    (hsp : ∀ i, i < n → spB (S i) = true) (htr : ∀ i, i < m → trB S n (T i) = true) (hp : spB p = true) (hj : triAt S T m p = -1) :
    Calls Try.prog 74 #[.slice A n c, .slice A2 m c2, .slice A3 n c3, .agg #[.int .i64 p.x, .int .i64 p.y]] w fun e w' => e = .returned (.tuple #[.agg #[.int .i64 0, .int .i64 0], .bool false]) ∧ Below w.heap.size w w' := by
  have HTA := Lib.hid (fun W (hb : Below w.heap.size w W) => triangleAt_any A n c S A2 m c2 T p W (hS.below hb) (hS2.below hb) hn hm hsp htr hp)
  rw [hj] at HTA
  clear hS hS2 hsp htr hp hj
  go_enter Try.func74, Try.ntmps74
  go_wp2_with fail
  refine (HTA.out _ (by repeat' (first | (with_reducible exact Below.refl _ _) | (with_reducible assumption) | (with_reducible refine Below.alloc ?_ ?_ _) | (with_reducible refine Below.drew ?_) | (with_reducible refine Below.setCell ?_ ?_ _) | (with_reducible refine Below.stepB (by assumption) ?_ ?_) | go_size))).mono ?_
  rintro e w1 ⟨rfl, hbw1⟩
  obtain ⟨hzw1, hcw1, hfw1⟩ := bfacts hbw1; (try simp at hzw1 hcw1 hfw1); (try (have : w.heap.size < w1.heap.size := by omega)); (try (have : w.heap.size + 1 < w1.heap.size := by omega)); (try (have : w.heap.size + 1 + 1 < w1.heap.size := by omega)); (try (have : w.heap.size + 1 + 1 + 1 < w1.heap.size := by omega))
  have hR4 : Blk w1 (w.heap.size + 1) 105 #[.int .i64 0, .int .i64 0] := (blk_newP (w.alloc _) _ _ (by simp)).below hbw1 (by simp)
  have d0 : w1.cell? ⟨w.heap.size + 1, 0, none⟩ = some (.int .i64 0) := hR4.cell 0
  have d1 : w1.cell? ⟨w.heap.size + 1, 1, none⟩ = some (.int .i64 0) := hR4.cell 1
  have hfz := hR4.frozen
  have hlt := hR4.lt
  have hR5 := Lib.hid ((hR4.set_ 0 (.int .i64 0)).set_ 1 (.int .i64 0))
  have HW4 : Hid (Below w.heap.size w w1) := Lib.hid (by repeat' (first | (with_reducible exact Below.refl _ _) | (with_reducible assumption) | (with_reducible refine Below.alloc ?_ ?_ _) | (with_reducible refine Below.drew ?_) | (with_reducible refine Below.setCell ?_ ?_ _) | (with_reducible refine Below.stepB (by assumption) ?_ ?_) | go_size))
  clear hcw1 hfw1 hbw1 hR4
  go_wp2
  have f0 : ((w1.setCell ⟨w.heap.size + 1, 0, none⟩ (.int .i64 0)).setCell ⟨w.heap.size + 1, 1, none⟩ (.int .i64 0)).cell? ⟨w.heap.size + 1, 0, none⟩ = some (.int .i64 0) := hR5.out.cell 0
  have f1 : ((w1.setCell ⟨w.heap.size + 1, 0, none⟩ (.int .i64 0)).setCell ⟨w.heap.size + 1, 1, none⟩ (.int .i64 0)).cell? ⟨w.heap.size + 1, 1, none⟩ = some (.int .i64 0) := hR5.out.cell 1
  refine bodyPost_ret (by simp [results, Try.results74, go_sem, f0, f1]; try rfl) rfl ?_
  have hbr := HW4.out
  exact ⟨rfl, by repeat' (first | (with_reducible exact Below.refl _ _) | (with_reducible assumption) | (with_reducible refine Below.alloc ?_ ?_ _) | (with_reducible refine Below.drew ?_) | (with_reducible refine Below.setCell ?_ ?_ _) | (with_reducible refine Below.stepB (by assumption) ?_ ?_) | go_size)⟩
def daB (S : Nat → SP) (n : Nat) (T : Nat → Nat → Int) (m : Nat) (L : Nat → Int) (d : Nat) (p : SP) : Bool := depthsB S n T m L d && (spB p && deOk S T m p)
def daN (S : Nat → SP) (n : Nat) (T : Nat → Nat → Int) (m : Nat) (L : Nat → Int) (d : Nat) (p : SP) : Int := if daB S n T m L d p = true then frN (plN S (T (triAt S T m p).toNat) L p 3) (turnV S (T (triAt S T m p).toNat)) else 0
def daD (S : Nat → SP) (n : Nat) (T : Nat → Nat → Int) (m : Nat) (L : Nat → Int) (d : Nat) (p : SP) : Int := if daB S n T m L d p = true then frD (plN S (T (triAt S T m p).toNat) L p 3) (turnV S (T (triAt S T m p).toNat)) else 0
theorem DepthAt_any (A : Option Addr) (n c : Nat) (S : Nat → SP) (A2 : Option Addr) (m c2 : Nat) (T : Nat → Nat → Int) (A3 : Option Addr) (d c3 : Nat) (L : Nat → Int) (p : SP) (w : World) (hS : SlSP w A n S) (hS2 : SlT w A2 m T) (hS3 : SlI w A3 d L) (hn : n ≤ 1048576) (hm : m ≤ 1048576) (hd : d ≤ 1048576) (hc : n ≤ c) (hc2 : m ≤ c2) :
    Calls Try.prog 19 #[.slice A n c, .slice A2 m c2, .slice A3 d c3, .agg #[.int .i64 p.x, .int .i64 p.y]] w fun e w' => e = .returned (.tuple #[.int .i64 (daN S n T m L d p), .int .i64 (daD S n T m L d p), .bool (daB S n T m L d p)]) ∧ Below w.heap.size w w' := by
  have hg := Lib.hid (fun W (hb : Below w.heap.size w W) => areDepths_any A n c S A2 m c2 T A3 d c3 L W (hS.below hb) (hS2.below hb) (hS3.below hb) hn hm hd hc hc2)
  have hpp := fun h => depthsB_parts (S := S) (n := n) (T := T) (m := m) (L := L) (d := d) h
  have hs := fun W => IsSpot_any p.x p.y W
  have hspd : spotB p.x p.y = spB p := rfl
  rw [hspd] at hs
  have hv : daB S n T m L d p = (depthsB S n T m L d && (spB p && deOk S T m p)) := rfl
  have ho : daN S n T m L d p = if daB S n T m L d p = true then frN (plN S (T (triAt S T m p).toNat) L p 3) (turnV S (T (triAt S T m p).toNat)) else 0 := rfl
  have hq : daD S n T m L d p = if daB S n T m L d p = true then frD (plN S (T (triAt S T m p).toNat) L p 3) (turnV S (T (triAt S T m p).toNat)) else 0 := rfl
  rw [hv] at ho hq
  generalize daN S n T m L d p = o at ho ⊢
  generalize daD S n T m L d p = o2 at hq ⊢
  generalize daB S n T m L d p = bb at hv ⊢
  generalize depthsB S n T m L d = z at hg hv ho hq hpp
  have HSP := Lib.hid hs
  clear hs hspd
  cases z
  · have HO : Hid (o = 0) := ho
    have HO2 : Hid (o2 = 0) := hq
    have HV : Hid (bb = false) := hv
    clear ho hv hq hpp hS hS2 hS3
    go_enter Try.func19, Try.ntmps19
    go_wp2_with fail
    refine (hg.out _ (by repeat' (first | (with_reducible exact Below.refl _ _) | (with_reducible assumption) | (with_reducible refine Below.alloc ?_ ?_ _) | (with_reducible refine Below.drew ?_) | (with_reducible refine Below.setCell ?_ ?_ _) | (with_reducible refine Below.stepB (by assumption) ?_ ?_) | go_size))).mono ?_
    rintro e w1 ⟨rfl, hbw1⟩
    obtain ⟨hzw1, hcw1, hfw1⟩ := bfacts hbw1; (try simp at hzw1 hcw1 hfw1); (try (have : w.heap.size < w1.heap.size := by omega)); (try (have : w.heap.size + 1 < w1.heap.size := by omega)); (try (have : w.heap.size + 1 + 1 < w1.heap.size := by omega)); (try (have : w.heap.size + 1 + 1 + 1 < w1.heap.size := by omega))
    go_wp2
    refine bodyPost_ret (results_tmp3 rfl _ _ _) rfl ?_
    exact ⟨by rw [HO.out, HO2.out, HV.out] <;> rfl, by repeat' (first | (with_reducible exact Below.refl _ _) | (with_reducible assumption) | (with_reducible refine Below.alloc ?_ ?_ _) | (with_reducible refine Below.drew ?_) | (with_reducible refine Below.setCell ?_ ?_ _) | (with_reducible refine Below.stepB (by assumption) ?_ ?_) | go_size)⟩
  obtain ⟨hmb, rfl, hdp⟩ := hpp rfl
  obtain ⟨hsp, -, -, htr⟩ := meshB_parts hmb
  have hL := depB_lt hdp
  clear hpp hmb hdp
  generalize hz2 : spB p = z2 at HSP hv ho hq
  cases z2
  · have HO : Hid (o = 0) := ho
    have HO2 : Hid (o2 = 0) := hq
    have HV : Hid (bb = false) := hv
    clear ho hv hq hsp htr hL hz2 hS hS2 hS3
    go_enter Try.func19, Try.ntmps19
    go_wp2_with fail
    refine (hg.out _ (by repeat' (first | (with_reducible exact Below.refl _ _) | (with_reducible assumption) | (with_reducible refine Below.alloc ?_ ?_ _) | (with_reducible refine Below.drew ?_) | (with_reducible refine Below.setCell ?_ ?_ _) | (with_reducible refine Below.stepB (by assumption) ?_ ?_) | go_size))).mono ?_
    rintro e w1 ⟨rfl, hbw1⟩
    obtain ⟨hzw1, hcw1, hfw1⟩ := bfacts hbw1; (try simp at hzw1 hcw1 hfw1); (try (have : w.heap.size < w1.heap.size := by omega)); (try (have : w.heap.size + 1 < w1.heap.size := by omega)); (try (have : w.heap.size + 1 + 1 < w1.heap.size := by omega)); (try (have : w.heap.size + 1 + 1 + 1 < w1.heap.size := by omega))
    go_wp2_with (go_at_call 67; refine (HSP.out _).mono ?_; rintro e w2 ⟨rfl, hbw2⟩; obtain ⟨hzw2, hcw2, hfw2⟩ := bfacts hbw2; (try simp at hzw2 hcw2 hfw2); (try (have : w.heap.size < w2.heap.size := by omega)); (try (have : w.heap.size + 1 < w2.heap.size := by omega)); (try (have : w.heap.size + 1 + 1 < w2.heap.size := by omega)); (try (have : w.heap.size + 1 + 1 + 1 < w2.heap.size := by omega)))
    refine bodyPost_ret (results_tmp3 rfl _ _ _) rfl ?_
    exact ⟨by rw [HO.out, HO2.out, HV.out] <;> rfl, by repeat' (first | (with_reducible exact Below.refl _ _) | (with_reducible assumption) | (with_reducible refine Below.alloc ?_ ?_ _) | (with_reducible refine Below.drew ?_) | (with_reducible refine Below.setCell ?_ ?_ _) | (with_reducible refine Below.stepB (by assumption) ?_ ?_) | go_size)⟩
  rcases idxP_cases (fun i => insB S (T i) p) m with ⟨hi, -⟩ | ⟨j, hjm, hi, -⟩
  · have hj : triAt S T m p = -1 := hi
    have hok : deOk S T m p = false := by rw [deOk, hj]; rfl
    rw [hok] at hv ho hq
    have HO : Hid (o = 0) := ho
    have HO2 : Hid (o2 = 0) := hq
    have HV : Hid (bb = false) := hv
    clear ho hv hq hok hi
    have HDA := Lib.hid (fun W (hb : Below w.heap.size w W) => depthAt_no A d c S A2 m c2 T A3 c3 p W (hS.below hb) (hS2.below hb) hn hm hsp htr hz2 hj)
    clear hsp htr hL hz2 hS hS2 hS3 hj
    go_enter Try.func19, Try.ntmps19
    go_wp2_with fail
    refine (hg.out _ (by repeat' (first | (with_reducible exact Below.refl _ _) | (with_reducible assumption) | (with_reducible refine Below.alloc ?_ ?_ _) | (with_reducible refine Below.drew ?_) | (with_reducible refine Below.setCell ?_ ?_ _) | (with_reducible refine Below.stepB (by assumption) ?_ ?_) | go_size))).mono ?_
    rintro e w1 ⟨rfl, hbw1⟩
    obtain ⟨hzw1, hcw1, hfw1⟩ := bfacts hbw1; (try simp at hzw1 hcw1 hfw1); (try (have : w.heap.size < w1.heap.size := by omega)); (try (have : w.heap.size + 1 < w1.heap.size := by omega)); (try (have : w.heap.size + 1 + 1 < w1.heap.size := by omega)); (try (have : w.heap.size + 1 + 1 + 1 < w1.heap.size := by omega))
    go_wp2_with fail
    refine (HSP.out _).mono ?_
    rintro e w2 ⟨rfl, hbw2⟩
    obtain ⟨hzw2, hcw2, hfw2⟩ := bfacts hbw2; (try simp at hzw2 hcw2 hfw2); (try (have : w.heap.size < w2.heap.size := by omega)); (try (have : w.heap.size + 1 < w2.heap.size := by omega)); (try (have : w.heap.size + 1 + 1 < w2.heap.size := by omega)); (try (have : w.heap.size + 1 + 1 + 1 < w2.heap.size := by omega))
    go_wp2_with fail
    refine (HDA.out _ (by repeat' (first | (with_reducible exact Below.refl _ _) | (with_reducible assumption) | (with_reducible refine Below.alloc ?_ ?_ _) | (with_reducible refine Below.drew ?_) | (with_reducible refine Below.setCell ?_ ?_ _) | (with_reducible refine Below.stepB (by assumption) ?_ ?_) | go_size))).mono ?_
    rintro e w3 ⟨rfl, hbw3⟩
    obtain ⟨hzw3, hcw3, hfw3⟩ := bfacts hbw3; (try simp at hzw3 hcw3 hfw3); (try (have : w.heap.size < w3.heap.size := by omega)); (try (have : w.heap.size + 1 < w3.heap.size := by omega)); (try (have : w.heap.size + 1 + 1 < w3.heap.size := by omega)); (try (have : w.heap.size + 1 + 1 + 1 < w3.heap.size := by omega))
    go_wp2
    refine bodyPost_ret (results_tmp3 rfl _ _ _) rfl ?_
    exact ⟨by rw [HO.out, HO2.out, HV.out] <;> rfl, by repeat' (first | (with_reducible exact Below.refl _ _) | (with_reducible assumption) | (with_reducible refine Below.alloc ?_ ?_ _) | (with_reducible refine Below.drew ?_) | (with_reducible refine Below.setCell ?_ ?_ _) | (with_reducible refine Below.stepB (by assumption) ?_ ?_) | go_size)⟩
  have hj : triAt S T m p = j := hi
  have hok : deOk S T m p = true := by rw [deOk, hj]; simp
  rw [hok, hj] at ho hq
  rw [hok] at hv
  have HO : Hid (o = frN (plN S (T j) L p 3) (turnV S (T j))) := ho
  have HO2 : Hid (o2 = frD (plN S (T j) L p 3) (turnV S (T j))) := hq
  have HV : Hid (bb = true) := hv
  clear ho hv hq hok hi
  have HDA := Lib.hid (fun W (hb : Below w.heap.size w W) => depthAt_yes A d c S A2 m c2 T A3 c3 L p j W (hS.below hb) (hS2.below hb) (hS3.below hb) hn hm hsp hL htr hz2 hj hjm)
  generalize frN (plN S (T j) L p 3) (turnV S (T j)) = fn at HDA HO
  generalize frD (plN S (T j) L p 3) (turnV S (T j)) = fd at HDA HO2
  clear hsp htr hL hz2 hS hS2 hS3 hj
  go_enter Try.func19, Try.ntmps19
  go_wp2_with fail
  refine (hg.out _ (by repeat' (first | (with_reducible exact Below.refl _ _) | (with_reducible assumption) | (with_reducible refine Below.alloc ?_ ?_ _) | (with_reducible refine Below.drew ?_) | (with_reducible refine Below.setCell ?_ ?_ _) | (with_reducible refine Below.stepB (by assumption) ?_ ?_) | go_size))).mono ?_
  rintro e w1 ⟨rfl, hbw1⟩
  obtain ⟨hzw1, hcw1, hfw1⟩ := bfacts hbw1; (try simp at hzw1 hcw1 hfw1); (try (have : w.heap.size < w1.heap.size := by omega)); (try (have : w.heap.size + 1 < w1.heap.size := by omega)); (try (have : w.heap.size + 1 + 1 < w1.heap.size := by omega)); (try (have : w.heap.size + 1 + 1 + 1 < w1.heap.size := by omega))
  go_wp2_with fail
  refine (HSP.out _).mono ?_
  rintro e w2 ⟨rfl, hbw2⟩
  obtain ⟨hzw2, hcw2, hfw2⟩ := bfacts hbw2; (try simp at hzw2 hcw2 hfw2); (try (have : w.heap.size < w2.heap.size := by omega)); (try (have : w.heap.size + 1 < w2.heap.size := by omega)); (try (have : w.heap.size + 1 + 1 < w2.heap.size := by omega)); (try (have : w.heap.size + 1 + 1 + 1 < w2.heap.size := by omega))
  go_wp2_with fail
  refine (HDA.out _ (by repeat' (first | (with_reducible exact Below.refl _ _) | (with_reducible assumption) | (with_reducible refine Below.alloc ?_ ?_ _) | (with_reducible refine Below.drew ?_) | (with_reducible refine Below.setCell ?_ ?_ _) | (with_reducible refine Below.stepB (by assumption) ?_ ?_) | go_size))).mono ?_
  rintro e w3 ⟨rfl, hbw3⟩
  obtain ⟨hzw3, hcw3, hfw3⟩ := bfacts hbw3; (try simp at hzw3 hcw3 hfw3); (try (have : w.heap.size < w3.heap.size := by omega)); (try (have : w.heap.size + 1 < w3.heap.size := by omega)); (try (have : w.heap.size + 1 + 1 < w3.heap.size := by omega)); (try (have : w.heap.size + 1 + 1 + 1 < w3.heap.size := by omega))
  go_wp2
  refine wp_region_later (by kernel_rfl) (by kernel_rfl) (fun hlx => ?_)
  repeat (go_big_quiet_step (fail))
  refine wpQuiet_nil ?_
  clear hlx
  intro w4 hbw4
  obtain ⟨hzw4, hcw4, hfw4⟩ := bfacts hbw4; (try simp at hzw4 hcw4 hfw4); (try (have : w.heap.size < w4.heap.size := by omega)); (try (have : w.heap.size + 1 < w4.heap.size := by omega)); (try (have : w.heap.size + 1 + 1 < w4.heap.size := by omega)); (try (have : w.heap.size + 1 + 1 + 1 < w4.heap.size := by omega))
  go_wp2
  refine bodyPost_ret (results_tmp3 rfl _ _ _) rfl ?_
  exact ⟨by rw [HO.out, HO2.out, HV.out] <;> rfl, by repeat' (first | (with_reducible exact Below.refl _ _) | (with_reducible assumption) | (with_reducible refine Below.alloc ?_ ?_ _) | (with_reducible refine Below.drew ?_) | (with_reducible refine Below.setCell ?_ ?_ _) | (with_reducible refine Below.stepB (by assumption) ?_ ?_) | go_size)⟩
theorem specDepthAt_any (A : Option Addr) (n c : Nat) (S : Nat → SP) (A2 : Option Addr) (m c2 : Nat) (T : Nat → Nat → Int) (A3 : Option Addr) (d c3 : Nat) (L : Nat → Int) (p : SP) (w : World) (hS : SlSP w A n S) (hS2 : SlT w A2 m T) (hS3 : SlI w A3 d L) (hn : n ≤ 1048576) (hm : m ≤ 1048576) (hd : d ≤ 1048576) :
    Calls Try.prog 20 #[.slice A n c, .slice A2 m c2, .slice A3 d c3, .agg #[.int .i64 p.x, .int .i64 p.y]] w fun e w' => e = .returned (.tuple #[.int .i64 (daN S n T m L d p), .int .i64 (daD S n T m L d p), .bool (daB S n T m L d p)]) ∧ Below w.heap.size w w' := by
  have hg := Lib.hid (fun W (hb : Below w.heap.size w W) => l15Depths_any A n c S A2 m c2 T A3 d c3 L W (hS.below hb) (hS2.below hb) (hS3.below hb) hn hm hd)
  have hpp := fun h => depthsB_parts (S := S) (n := n) (T := T) (m := m) (L := L) (d := d) h
  have hs := fun W => l2Spot_any p.x p.y W
  have hspd : spotB p.x p.y = spB p := rfl
  rw [hspd] at hs
  have hv : daB S n T m L d p = (depthsB S n T m L d && (spB p && deOk S T m p)) := rfl
  have ho : daN S n T m L d p = if daB S n T m L d p = true then frN (plN S (T (triAt S T m p).toNat) L p 3) (turnV S (T (triAt S T m p).toNat)) else 0 := rfl
  have hq : daD S n T m L d p = if daB S n T m L d p = true then frD (plN S (T (triAt S T m p).toNat) L p 3) (turnV S (T (triAt S T m p).toNat)) else 0 := rfl
  rw [hv] at ho hq
  generalize daN S n T m L d p = o at ho ⊢
  generalize daD S n T m L d p = o2 at hq ⊢
  generalize daB S n T m L d p = bb at hv ⊢
  generalize depthsB S n T m L d = z at hg hv ho hq hpp
  have HSP := Lib.hid hs
  clear hs hspd
  cases z
  · have HO : Hid (o = 0) := ho
    have HO2 : Hid (o2 = 0) := hq
    have HV : Hid (bb = false) := hv
    clear ho hv hq hpp hS hS2 hS3
    go_enter Try.func20, Try.ntmps20
    go_wp2_with fail
    refine (hg.out _ (by repeat' (first | (with_reducible exact Below.refl _ _) | (with_reducible assumption) | (with_reducible refine Below.alloc ?_ ?_ _) | (with_reducible refine Below.drew ?_) | (with_reducible refine Below.setCell ?_ ?_ _) | (with_reducible refine Below.stepB (by assumption) ?_ ?_) | go_size))).mono ?_
    rintro e w1 ⟨rfl, hbw1⟩
    obtain ⟨hzw1, hcw1, hfw1⟩ := bfacts hbw1; (try simp at hzw1 hcw1 hfw1); (try (have : w.heap.size < w1.heap.size := by omega)); (try (have : w.heap.size + 1 < w1.heap.size := by omega)); (try (have : w.heap.size + 1 + 1 < w1.heap.size := by omega)); (try (have : w.heap.size + 1 + 1 + 1 < w1.heap.size := by omega))
    go_wp2
    refine bodyPost_ret (results_tmp3 rfl _ _ _) rfl ?_
    exact ⟨by rw [HO.out, HO2.out, HV.out] <;> rfl, by repeat' (first | (with_reducible exact Below.refl _ _) | (with_reducible assumption) | (with_reducible refine Below.alloc ?_ ?_ _) | (with_reducible refine Below.drew ?_) | (with_reducible refine Below.setCell ?_ ?_ _) | (with_reducible refine Below.stepB (by assumption) ?_ ?_) | go_size)⟩
  obtain ⟨hmb, rfl, hdp⟩ := hpp rfl
  obtain ⟨hsp, -, -, htr⟩ := meshB_parts hmb
  have hL := depB_lt hdp
  clear hpp hmb hdp
  generalize hz2 : spB p = z2 at HSP hv ho hq
  cases z2
  · have HO : Hid (o = 0) := ho
    have HO2 : Hid (o2 = 0) := hq
    have HV : Hid (bb = false) := hv
    clear ho hv hq hsp htr hL hz2 hS hS2 hS3
    go_enter Try.func20, Try.ntmps20
    go_wp2_with fail
    refine (hg.out _ (by repeat' (first | (with_reducible exact Below.refl _ _) | (with_reducible assumption) | (with_reducible refine Below.alloc ?_ ?_ _) | (with_reducible refine Below.drew ?_) | (with_reducible refine Below.setCell ?_ ?_ _) | (with_reducible refine Below.stepB (by assumption) ?_ ?_) | go_size))).mono ?_
    rintro e w1 ⟨rfl, hbw1⟩
    obtain ⟨hzw1, hcw1, hfw1⟩ := bfacts hbw1; (try simp at hzw1 hcw1 hfw1); (try (have : w.heap.size < w1.heap.size := by omega)); (try (have : w.heap.size + 1 < w1.heap.size := by omega)); (try (have : w.heap.size + 1 + 1 < w1.heap.size := by omega)); (try (have : w.heap.size + 1 + 1 + 1 < w1.heap.size := by omega))
    go_wp2_with (go_at_call 64; refine (HSP.out _).mono ?_; rintro e w2 ⟨rfl, hbw2⟩; obtain ⟨hzw2, hcw2, hfw2⟩ := bfacts hbw2; (try simp at hzw2 hcw2 hfw2); (try (have : w.heap.size < w2.heap.size := by omega)); (try (have : w.heap.size + 1 < w2.heap.size := by omega)); (try (have : w.heap.size + 1 + 1 < w2.heap.size := by omega)); (try (have : w.heap.size + 1 + 1 + 1 < w2.heap.size := by omega)))
    refine bodyPost_ret (results_tmp3 rfl _ _ _) rfl ?_
    exact ⟨by rw [HO.out, HO2.out, HV.out] <;> rfl, by repeat' (first | (with_reducible exact Below.refl _ _) | (with_reducible assumption) | (with_reducible refine Below.alloc ?_ ?_ _) | (with_reducible refine Below.drew ?_) | (with_reducible refine Below.setCell ?_ ?_ _) | (with_reducible refine Below.stepB (by assumption) ?_ ?_) | go_size)⟩
  rcases idxP_cases (fun i => insB S (T i) p) m with ⟨hi, -⟩ | ⟨j, hjm, hi, -⟩
  · have hj : triAt S T m p = -1 := hi
    have hok : deOk S T m p = false := by rw [deOk, hj]; rfl
    rw [hok] at hv ho hq
    have HO : Hid (o = 0) := ho
    have HO2 : Hid (o2 = 0) := hq
    have HV : Hid (bb = false) := hv
    clear ho hv hq hok hi
    have HDA := Lib.hid (fun W (hb : Below w.heap.size w W) => l15At_any A d c S A2 m c2 T p W (hS.below hb) (hS2.below hb) hn hm hsp htr hz2)
    rw [hj] at HDA
    clear hsp htr hL hz2 hS hS2 hS3 hj
    go_enter Try.func20, Try.ntmps20
    go_wp2_with fail
    refine (hg.out _ (by repeat' (first | (with_reducible exact Below.refl _ _) | (with_reducible assumption) | (with_reducible refine Below.alloc ?_ ?_ _) | (with_reducible refine Below.drew ?_) | (with_reducible refine Below.setCell ?_ ?_ _) | (with_reducible refine Below.stepB (by assumption) ?_ ?_) | go_size))).mono ?_
    rintro e w1 ⟨rfl, hbw1⟩
    obtain ⟨hzw1, hcw1, hfw1⟩ := bfacts hbw1; (try simp at hzw1 hcw1 hfw1); (try (have : w.heap.size < w1.heap.size := by omega)); (try (have : w.heap.size + 1 < w1.heap.size := by omega)); (try (have : w.heap.size + 1 + 1 < w1.heap.size := by omega)); (try (have : w.heap.size + 1 + 1 + 1 < w1.heap.size := by omega))
    go_wp2_with fail
    refine (HSP.out _).mono ?_
    rintro e w2 ⟨rfl, hbw2⟩
    obtain ⟨hzw2, hcw2, hfw2⟩ := bfacts hbw2; (try simp at hzw2 hcw2 hfw2); (try (have : w.heap.size < w2.heap.size := by omega)); (try (have : w.heap.size + 1 < w2.heap.size := by omega)); (try (have : w.heap.size + 1 + 1 < w2.heap.size := by omega)); (try (have : w.heap.size + 1 + 1 + 1 < w2.heap.size := by omega))
    go_wp2_with fail
    refine (HDA.out _ (by repeat' (first | (with_reducible exact Below.refl _ _) | (with_reducible assumption) | (with_reducible refine Below.alloc ?_ ?_ _) | (with_reducible refine Below.drew ?_) | (with_reducible refine Below.setCell ?_ ?_ _) | (with_reducible refine Below.stepB (by assumption) ?_ ?_) | go_size))).mono ?_
    rintro e w3 ⟨rfl, hbw3⟩
    obtain ⟨hzw3, hcw3, hfw3⟩ := bfacts hbw3; (try simp at hzw3 hcw3 hfw3); (try (have : w.heap.size < w3.heap.size := by omega)); (try (have : w.heap.size + 1 < w3.heap.size := by omega)); (try (have : w.heap.size + 1 + 1 < w3.heap.size := by omega)); (try (have : w.heap.size + 1 + 1 + 1 < w3.heap.size := by omega))
    go_wp2
    refine bodyPost_ret (results_tmp3 rfl _ _ _) rfl ?_
    exact ⟨by rw [HO.out, HO2.out, HV.out] <;> rfl, by repeat' (first | (with_reducible exact Below.refl _ _) | (with_reducible assumption) | (with_reducible refine Below.alloc ?_ ?_ _) | (with_reducible refine Below.drew ?_) | (with_reducible refine Below.setCell ?_ ?_ _) | (with_reducible refine Below.stepB (by assumption) ?_ ?_) | go_size)⟩
  have hj : triAt S T m p = j := hi
  have hok : deOk S T m p = true := by rw [deOk, hj]; simp
  rw [hok, hj] at ho hq
  rw [hok] at hv
  have HO : Hid (o = frN (plN S (T j) L p 3) (turnV S (T j))) := ho
  have HO2 : Hid (o2 = frD (plN S (T j) L p 3) (turnV S (T j))) := hq
  have HV : Hid (bb = true) := hv
  clear ho hv hq hok hi
  have HAT := Lib.hid (fun W (hb : Below w.heap.size w W) => l15At_any A d c S A2 m c2 T p W (hS.below hb) (hS2.below hb) hn hm hsp htr hz2)
  rw [hj] at HAT
  have HPL := Lib.hid (fun W (hb : Below w.heap.size w W) => l15Plane_any A d c S (T j) A3 c3 L p W (hS.below hb) (hS3.below hb) hn hsp hL (trB_idx (htr j hjm)) hz2)
  have hb3 := plN_bd hsp hL (trB_idx (htr j hjm)) hz2 3 (by omega)
  have htv := turnV_bd hsp (trB_idx (htr j hjm))
  have htp := trB_turn (htr j hjm)
  generalize plN S (T j) L p 3 = res at HPL HO HO2 hb3
  generalize turnV S (T j) = tv at HPL HO HO2 htv htp
  have HRD := Lib.hid (fun W => l2Reduce_any res tv W (by omega) (by omega) htp (by omega))
  have HN : Hid (frN res tv = res.tdiv (Nat.gcd res.natAbs tv.natAbs : Nat)) := rfl
  have HD : Hid (frD res tv = tv.tdiv (Nat.gcd res.natAbs tv.natAbs : Nat)) := rfl
  rw [← HN.out, ← HD.out] at HRD
  generalize frN res tv = fn at HRD HO
  generalize frD res tv = fd at HRD HO2
  have HS2 := Lib.hid hS2
  clear hsp htr hL hz2 hS hS2 hS3 hj HN HD hb3 htv htp
  go_enter Try.func20, Try.ntmps20
  go_wp2_with fail
  refine (hg.out _ (by repeat' (first | (with_reducible exact Below.refl _ _) | (with_reducible assumption) | (with_reducible refine Below.alloc ?_ ?_ _) | (with_reducible refine Below.drew ?_) | (with_reducible refine Below.setCell ?_ ?_ _) | (with_reducible refine Below.stepB (by assumption) ?_ ?_) | go_size))).mono ?_
  rintro e w1 ⟨rfl, hbw1⟩
  obtain ⟨hzw1, hcw1, hfw1⟩ := bfacts hbw1; (try simp at hzw1 hcw1 hfw1); (try (have : w.heap.size < w1.heap.size := by omega)); (try (have : w.heap.size + 1 < w1.heap.size := by omega)); (try (have : w.heap.size + 1 + 1 < w1.heap.size := by omega)); (try (have : w.heap.size + 1 + 1 + 1 < w1.heap.size := by omega))
  have HB1 := Lib.hid ((blk_newP w 26 #[.int .i64 p.x, .int .i64 p.y] rfl).below hbw1 (by simp))
  go_wp2_with fail
  refine (HSP.out _).mono ?_
  rintro e w2 ⟨rfl, hbw2⟩
  obtain ⟨hzw2, hcw2, hfw2⟩ := bfacts hbw2; (try simp at hzw2 hcw2 hfw2); (try (have : w.heap.size < w2.heap.size := by omega)); (try (have : w.heap.size + 1 < w2.heap.size := by omega)); (try (have : w.heap.size + 1 + 1 < w2.heap.size := by omega)); (try (have : w.heap.size + 1 + 1 + 1 < w2.heap.size := by omega))
  go_wp2_with fail
  refine (HAT.out _ (by repeat' (first | (with_reducible exact Below.refl _ _) | (with_reducible assumption) | (with_reducible refine Below.alloc ?_ ?_ _) | (with_reducible refine Below.drew ?_) | (with_reducible refine Below.setCell ?_ ?_ _) | (with_reducible refine Below.stepB (by assumption) ?_ ?_) | go_size))).mono ?_
  rintro e w3 ⟨rfl, hbw3⟩
  obtain ⟨hzw3, hcw3, hfw3⟩ := bfacts hbw3; (try simp at hzw3 hcw3 hfw3); (try (have : w.heap.size < w3.heap.size := by omega)); (try (have : w.heap.size + 1 < w3.heap.size := by omega)); (try (have : w.heap.size + 1 + 1 < w3.heap.size := by omega)); (try (have : w.heap.size + 1 + 1 + 1 < w3.heap.size := by omega))
  have HW3 : Hid (Below w.heap.size w w3) := Lib.hid (by repeat' (first | (with_reducible exact Below.refl _ _) | (with_reducible assumption) | (with_reducible refine Below.alloc ?_ ?_ _) | (with_reducible refine Below.drew ?_) | (with_reducible refine Below.setCell ?_ ?_ _) | (with_reducible refine Below.stepB (by assumption) ?_ ?_) | go_size))
  have hb3 := (HB1.out.below hbw2 (by omega)).below hbw3 (by omega)
  have p0 : w3.cell? ⟨w.heap.size, 0, none⟩ = some (.int .i64 p.x) := hb3.cell 0
  have p1 : w3.cell? ⟨w.heap.size, 1, none⟩ = some (.int .i64 p.y) := hb3.cell 1
  have hlt := hb3.lt
  obtain ⟨b2, off2, rfl, _, hbl2, t0, t1, t2⟩ := HS2.out.at (k := j) HW3.out hjm
  clear hcw1 hcw2 hcw3 hb3
  have HAL := Lib.hid (fun (x : Later w3) => HAT.out x.w (Later.old x HW3.out (by omega)))
  have HPLL := Lib.hid (fun (x : Later w3) => HPL.out x.w (Later.old x HW3.out (by omega)))
  go_wp2_with fail
  refine wp_region_later (by kernel_rfl) (by kernel_rfl) (fun hlx => ?_)
  repeat (go_big_quiet_step ((first | (go_at_call 76; with_reducible exact Later.call (HAL.out _)) | (go_at_call 77; with_reducible exact Later.call (HPLL.out _)))))
  refine wpQuiet_nil ?_
  clear hlx
  intro w4 hbw4
  obtain ⟨hzw4, hcw4, hfw4⟩ := bfacts hbw4; (try simp at hzw4 hcw4 hfw4); (try (have : w.heap.size < w4.heap.size := by omega)); (try (have : w.heap.size + 1 < w4.heap.size := by omega)); (try (have : w.heap.size + 1 + 1 < w4.heap.size := by omega)); (try (have : w.heap.size + 1 + 1 + 1 < w4.heap.size := by omega))
  go_wp2_with fail
  refine (HRD.out _).mono ?_
  rintro e w5 ⟨rfl, hbw5⟩
  obtain ⟨hzw5, hcw5, hfw5⟩ := bfacts hbw5; (try simp at hzw5 hcw5 hfw5); (try (have : w.heap.size < w5.heap.size := by omega)); (try (have : w.heap.size + 1 < w5.heap.size := by omega)); (try (have : w.heap.size + 1 + 1 < w5.heap.size := by omega)); (try (have : w.heap.size + 1 + 1 + 1 < w5.heap.size := by omega))
  have hbr := HW3.out
  go_wp2
  refine bodyPost_ret (results_tmp3 rfl _ _ _) rfl ?_
  exact ⟨by rw [HO.out, HO2.out, HV.out] <;> rfl, by repeat' (first | (with_reducible exact Below.refl _ _) | (with_reducible assumption) | (with_reducible refine Below.alloc ?_ ?_ _) | (with_reducible refine Below.drew ?_) | (with_reducible refine Below.setCell ?_ ?_ _) | (with_reducible refine Below.stepB (by assumption) ?_ ?_) | go_size)⟩
theorem DepthAt_at (A : Option Addr) (n : Nat) (S : Nat → SP) (A2 : Option Addr) (m : Nat) (T : Nat → Nat → Int) (A3 : Option Addr) (d c3 : Nat) (L : Nat → Int) (p : SP) (w : World) (hS : SlSP w A n S) (hS2 : SlT w A2 m T) (hS3 : SlI w A3 d L) (hn : n ≤ 1048576) (hm : m ≤ 1048576) (hd : d ≤ 1048576) :
    Calls Try.prog 19 #[.slice A n n, .slice A2 m m, .slice A3 d c3, .agg #[.int .i64 p.x, .int .i64 p.y]] w fun e w' => e = .returned (.tuple #[.int .i64 (daN S n T m L d p), .int .i64 (daD S n T m L d p), .bool (daB S n T m L d p)]) ∧ Below w.heap.size w w' := DepthAt_any A n n S A2 m m T A3 d c3 L p w hS hS2 hS3 hn hm hd (Nat.le_refl _) (Nat.le_refl _)
end Go.Proofs.Ytfflbkmncnaffaa
