/- Contracts: the neighbors of a triangle: the program's and the reference's. -/
import Derived.Test.YtfflbkmncnaffaaMeshN
namespace Go.Proofs.Ytfflbkmncnaffaa
open Go.RowKit
def nbL (T : Nat → Nat → Int) (t m : Nat) : List Int := pick (fun i => nbB (T t) (T i)) (fun i => (i : Int)) m
def nbrB (S : Nat → SP) (n : Nat) (T : Nat → Nat → Int) (m : Nat) (t : Int) : Bool := meshB S n T m && inB t 0 ((m : Int) - 1)
def nbrO (S : Nat → SP) (n : Nat) (T : Nat → Nat → Int) (m : Nat) (t : Int) : List Int := if nbrB S n T m t = true then nbL T t.toNat m else []
theorem nbrO_len (S : Nat → SP) (n : Nat) (T : Nat → Nat → Int) (m : Nat) (t : Int) : (nbrO S n T m t).length ≤ m := by
  unfold nbrO
  split
  · exact pick_len m
  · simp
theorem NeighborsOf_any (A : Option Addr) (n c : Nat) (S : Nat → SP) (A2 : Option Addr) (m c2 : Nat) (T : Nat → Nat → Int) (t : Int) (w : World) (hS : SlSP w A n S) (hS2 : SlT w A2 m T) (hn : n ≤ 1048576) (hm : m ≤ 1048576) (hc : n ≤ c) (hc2 : m ≤ c2) :
    Calls Try.prog 25 #[.slice A n c, .slice A2 m c2, .int .i64 t] w fun e w' => IntsOut w (nbrO S n T m t) (nbrB S n T m t) e w' := by
  have hg := Lib.hid (fun W (hb : Below w.heap.size w W) => IsMesh_any A n c S A2 m c2 T W (hS.below hb) (hS2.below hb) hn hm hc hc2)
  have hin := fun W => inside_any t 0 ((m : Int) - 1) W
  have ho : nbrO S n T m t = if nbrB S n T m t = true then nbL T t.toNat m else [] := rfl
  have hv : nbrB S n T m t = (meshB S n T m && inB t 0 ((m : Int) - 1)) := rfl
  rw [hv] at ho
  generalize nbrO S n T m t = o at ho ⊢
  generalize nbrB S n T m t = bb at hv ⊢
  generalize meshB S n T m = q at hg hv ho
  generalize hq2 : inB t 0 ((m : Int) - 1) = q2 at hin hv ho
  have HI := Lib.hid hin
  have HS2 := Lib.hid hS2
  clear hS hS2 hin
  obtain ⟨i0, hi0, hz0, hz1, hz2⟩ := info_parts int_infoC
  cases q
  · have HO : Hid (o = []) := ho
    have HV : Hid (false = bb) := hv.symm
    clear ho hv hq2
    go_enter Try.func25, Try.ntmps25
    go_wp2_with fail
    refine (hg.out _ (by repeat' (first | (with_reducible exact Below.refl _ _) | (with_reducible assumption) | (with_reducible refine Below.alloc ?_ ?_ _) | (with_reducible refine Below.drew ?_) | (with_reducible refine Below.setCell ?_ ?_ _) | (with_reducible refine Below.stepB (by assumption) ?_ ?_) | go_size))).mono ?_
    rintro e w1 ⟨rfl, hbw1⟩
    obtain ⟨hzw1, hcw1, hfw1⟩ := bfacts hbw1; (try simp at hzw1 hcw1 hfw1); (try (have : w.heap.size < w1.heap.size := by omega)); (try (have : w.heap.size + 1 < w1.heap.size := by omega)); (try (have : w.heap.size + 1 + 1 < w1.heap.size := by omega)); (try (have : w.heap.size + 1 + 1 + 1 < w1.heap.size := by omega))
    go_wp2
    go_ret2
    exact IntsOut.none HO.out HV.out.symm (by repeat' (first | (with_reducible exact Below.refl _ _) | (with_reducible assumption) | (with_reducible refine Below.alloc ?_ ?_ _) | (with_reducible refine Below.drew ?_) | (with_reducible refine Below.setCell ?_ ?_ _) | (with_reducible refine Below.stepB (by assumption) ?_ ?_) | go_size))
  cases q2
  · have HO : Hid (o = []) := ho
    have HV : Hid (false = bb) := hv.symm
    clear ho hv hq2
    go_enter Try.func25, Try.ntmps25
    go_wp2_with fail
    refine (hg.out _ (by repeat' (first | (with_reducible exact Below.refl _ _) | (with_reducible assumption) | (with_reducible refine Below.alloc ?_ ?_ _) | (with_reducible refine Below.drew ?_) | (with_reducible refine Below.setCell ?_ ?_ _) | (with_reducible refine Below.stepB (by assumption) ?_ ?_) | go_size))).mono ?_
    rintro e w1 ⟨rfl, hbw1⟩
    obtain ⟨hzw1, hcw1, hfw1⟩ := bfacts hbw1; (try simp at hzw1 hcw1 hfw1); (try (have : w.heap.size < w1.heap.size := by omega)); (try (have : w.heap.size + 1 < w1.heap.size := by omega)); (try (have : w.heap.size + 1 + 1 < w1.heap.size := by omega)); (try (have : w.heap.size + 1 + 1 + 1 < w1.heap.size := by omega))
    go_wp2_with (go_at_call 79; refine (HI.out _).mono ?_; rintro e w' ⟨rfl, rfl⟩)
    go_ret2
    exact IntsOut.none HO.out HV.out.symm (by repeat' (first | (with_reducible exact Below.refl _ _) | (with_reducible assumption) | (with_reducible refine Below.alloc ?_ ?_ _) | (with_reducible refine Below.drew ?_) | (with_reducible refine Below.setCell ?_ ?_ _) | (with_reducible refine Below.stepB (by assumption) ?_ ?_) | go_size))
  have HO : Hid (o = nbL T t.toNat m) := ho
  have HV : Hid (true = bb) := hv.symm
  obtain ⟨t0, t1⟩ := inB_iff.1 hq2
  clear ho hv hq2
  obtain ⟨j, rfl⟩ : ∃ j : Nat, t = j := ⟨t.toNat, by omega⟩
  have HO2 : Hid (o = nbL T j m) := HO
  have hj : j < m := by omega
  clear HO t0 t1
  go_enter Try.func25, Try.ntmps25
  go_wp2_with fail
  refine (hg.out _ (by repeat' (first | (with_reducible exact Below.refl _ _) | (with_reducible assumption) | (with_reducible refine Below.alloc ?_ ?_ _) | (with_reducible refine Below.drew ?_) | (with_reducible refine Below.setCell ?_ ?_ _) | (with_reducible refine Below.stepB (by assumption) ?_ ?_) | go_size))).mono ?_
  rintro e w1 ⟨rfl, hbw1⟩
  obtain ⟨hzw1, hcw1, hfw1⟩ := bfacts hbw1; (try simp at hzw1 hcw1 hfw1); (try (have : w.heap.size < w1.heap.size := by omega)); (try (have : w.heap.size + 1 < w1.heap.size := by omega)); (try (have : w.heap.size + 1 + 1 < w1.heap.size := by omega)); (try (have : w.heap.size + 1 + 1 + 1 < w1.heap.size := by omega))
  go_wp2_with (go_at_call 79; refine (HI.out _).mono ?_; rintro e w' ⟨rfl, rfl⟩)
  go_loopw [8, 28] (fun v6 vc wr => ∃ k : Nat, k ≤ m ∧ vc = .int .i64 k ∧ wr.ownsRow w1.heap.size 3 1 v6 (nbL T j k).length ((nbL T j k).map (Value.int .i64)) ∧ w1.heap.size ≤ wr.heap.size ∧ Below w.heap.size w wr) (fun v6 vc _ => m - (intOf vc).toNat)
  case atStart => exact ⟨0, Nat.zero_le _, rfl, ownsRow_empty w1 3 1, by simp, by repeat' (first | (with_reducible exact Below.refl _ _) | (with_reducible assumption) | (with_reducible refine Below.alloc ?_ ?_ _) | (with_reducible refine Below.drew ?_) | (with_reducible refine Below.setCell ?_ ?_ _) | (with_reducible refine Below.stepB (by assumption) ?_ ?_) | go_size)⟩
  case round =>
    obtain ⟨k, hk, rfl, hO, hzz, hbr⟩ := hrel
    have hzr := hbr.size
    have hlen : (nbL T j k).length ≤ k := pick_len k
    obtain ⟨A8, c8, rfl⟩ := ownsRow_form hO
    have HO8 := Lib.hid hO
    clear hO
    by_cases hlt : k < m
    · obtain ⟨b, off, rfl, hbl, hbl2, x0, x1, x2⟩ := HS2.out.at (k := k) hbr hlt
      obtain ⟨b', off', hA', _, hbl4, s0, s1, s2⟩ := HS2.out.at (k := j) hbr hj
      obtain ⟨rfl, rfl⟩ : b = b' ∧ off = off' := by simpa using hA'
      have HC := Lib.hid (fun W => otherCorner_any (T j) (T k) W)
      generalize hcv : corN (T j) (T k) 3 = cv at HC
      generalize hq : nbB (T j) (T k) = q at HC
      have HQ := Lib.hid hq
      have HBR := Lib.hid hbr
      clear hA' hcv hq hbr
      cases q
      · have HL : Hid (nbL T j (k + 1) = nbL T j k) := pick_miss HQ.out
        go_wp2_with fail
        refine wp_region_later (by kernel_rfl) (by kernel_rfl) (fun hlx => ?_)
        repeat (go_big_quiet_step ((go_at_call 91; with_reducible exact Later.call (HC.out _))))
        refine wpQuiet_nil ?_
        clear hlx
        intro w3 hbw3
        obtain ⟨hzw3, hcw3, hfw3⟩ := bfacts hbw3; (try simp at hzw3 hcw3 hfw3); (try (have : w.heap.size < w3.heap.size := by omega)); (try (have : w.heap.size + 1 < w3.heap.size := by omega)); (try (have : w.heap.size + 1 + 1 < w3.heap.size := by omega)); (try (have : w.heap.size + 1 + 1 + 1 < w3.heap.size := by omega))
        go_wp2
        go_roundw
        case rel => exact ⟨k + 1, by omega, by go_num, by rw [HL.out]; exact ownsRow_below HO8.out (by have hbr := HBR.out; repeat' (first | (with_reducible exact Below.refl _ _) | (with_reducible assumption) | (with_reducible refine Below.alloc ?_ ?_ _) | (with_reducible refine Below.drew ?_) | (with_reducible refine Below.setCell ?_ ?_ _) | (with_reducible refine Below.stepB (by assumption) ?_ ?_) | go_size)), by omega, by have hbr := HBR.out; repeat' (first | (with_reducible exact Below.refl _ _) | (with_reducible assumption) | (with_reducible refine Below.alloc ?_ ?_ _) | (with_reducible refine Below.drew ?_) | (with_reducible refine Below.setCell ?_ ?_ _) | (with_reducible refine Below.stepB (by assumption) ?_ ?_) | go_size)⟩
        case measure => simp [intOf]; omega
      · have HL : Hid (nbL T j (k + 1) = nbL T j k ++ [(k : Int)]) := pick_hit HQ.out
        go_wp2_with fail
        refine wp_region_later (by kernel_rfl) (by kernel_rfl) (fun hlx => ?_)
        repeat (go_big_quiet_step ((go_at_call 91; with_reducible exact Later.call (HC.out _))))
        refine wpQuiet_nil ?_
        clear hlx
        intro w3 hbw3
        obtain ⟨hzw3, hcw3, hfw3⟩ := bfacts hbw3; (try simp at hzw3 hcw3 hfw3); (try (have : w.heap.size < w3.heap.size := by omega)); (try (have : w.heap.size + 1 < w3.heap.size := by omega)); (try (have : w.heap.size + 1 + 1 < w3.heap.size := by omega)); (try (have : w.heap.size + 1 + 1 + 1 < w3.heap.size := by omega))
        have hO3 := Lib.hid (ownsRow_below HO8.out (by have hbr := HBR.out; repeat' (first | (with_reducible exact Below.refl _ _) | (with_reducible assumption) | (with_reducible refine Below.alloc ?_ ?_ _) | (with_reducible refine Below.drew ?_) | (with_reducible refine Below.setCell ?_ ?_ _) | (with_reducible refine Below.stepB (by assumption) ?_ ?_) | go_size)) : w3.ownsRow w1.heap.size 3 1 _ _ _)
        go_wp2_with (at_builtin; refine wpList_append_int1 _ rfl _ _ 33 rfl w1.heap.size 3 i0 Try.underlying33 hi0 hz0 hz1 hz2 _ _ _ rfl (hO3.out.alloc _) _ _ ((k : Int)) rfl ?_ ?_ ?_ ?_; go_must (focus (simp; done)); go_must (focus omega); go_must (focus (simp; omega)); intro v9 w5 hOw5 hbw5; have hzw5 := hbw5.size; (try simp at hzw5))
        go_roundw
        case rel => exact ⟨k + 1, by omega, by go_num, by rw [HL.out]; exact owns_snoc hOw5, by omega, by have hbr := HBR.out; repeat' (first | (with_reducible exact Below.refl _ _) | (with_reducible assumption) | (with_reducible refine Below.alloc ?_ ?_ _) | (with_reducible refine Below.drew ?_) | (with_reducible refine Below.setCell ?_ ?_ _) | (with_reducible refine Below.stepB (by assumption) ?_ ?_) | go_size)⟩
        case measure => simp [intOf]; omega
    · obtain rfl : k = m := by omega
      go_wp2
      go_ret2
      exact IntsOut.row HO8.out HO2.out HV.out.symm (by omega) hbr
theorem specNeighbors_any (A : Option Addr) (n c : Nat) (S : Nat → SP) (A2 : Option Addr) (m c2 : Nat) (T : Nat → Nat → Int) (t : Int) (w : World) (hS : SlSP w A n S) (hS2 : SlT w A2 m T) (hn : n ≤ 1048576) (hm : m ≤ 1048576) :
    Calls Try.prog 26 #[.slice A n c, .slice A2 m c2, .int .i64 t] w fun e w' => IntsOut w (nbrO S n T m t) (nbrB S n T m t) e w' := by
  have hg := Lib.hid (fun W (hb : Below w.heap.size w W) => l15Good_any A n c S A2 m c2 T W (hS.below hb) (hS2.below hb) hn hm)
  have hin := fun W => l1In_any t 0 ((m : Int) - 1) W
  have ho : nbrO S n T m t = if nbrB S n T m t = true then nbL T t.toNat m else [] := rfl
  have hv : nbrB S n T m t = (meshB S n T m && inB t 0 ((m : Int) - 1)) := rfl
  rw [hv] at ho
  generalize nbrO S n T m t = o at ho ⊢
  generalize nbrB S n T m t = bb at hv ⊢
  generalize meshB S n T m = q at hg hv ho
  generalize hq2 : inB t 0 ((m : Int) - 1) = q2 at hin hv ho
  have HI := Lib.hid hin
  have HS2 := Lib.hid hS2
  clear hS hS2 hin
  obtain ⟨i0, hi0, hz0, hz1, hz2⟩ := info_parts int_infoC
  cases q
  · have HO : Hid (o = []) := ho
    have HV : Hid (false = bb) := hv.symm
    clear ho hv hq2
    go_enter Try.func26, Try.ntmps26
    go_wp2_with fail
    refine (hg.out _ (by repeat' (first | (with_reducible exact Below.refl _ _) | (with_reducible assumption) | (with_reducible refine Below.alloc ?_ ?_ _) | (with_reducible refine Below.drew ?_) | (with_reducible refine Below.setCell ?_ ?_ _) | (with_reducible refine Below.stepB (by assumption) ?_ ?_) | go_size))).mono ?_
    rintro e w1 ⟨rfl, hbw1⟩
    obtain ⟨hzw1, hcw1, hfw1⟩ := bfacts hbw1; (try simp at hzw1 hcw1 hfw1); (try (have : w.heap.size < w1.heap.size := by omega)); (try (have : w.heap.size + 1 < w1.heap.size := by omega)); (try (have : w.heap.size + 1 + 1 < w1.heap.size := by omega)); (try (have : w.heap.size + 1 + 1 + 1 < w1.heap.size := by omega))
    go_wp2
    go_ret2
    exact IntsOut.none HO.out HV.out.symm (by repeat' (first | (with_reducible exact Below.refl _ _) | (with_reducible assumption) | (with_reducible refine Below.alloc ?_ ?_ _) | (with_reducible refine Below.drew ?_) | (with_reducible refine Below.setCell ?_ ?_ _) | (with_reducible refine Below.stepB (by assumption) ?_ ?_) | go_size))
  cases q2
  · have HO : Hid (o = []) := ho
    have HV : Hid (false = bb) := hv.symm
    clear ho hv hq2
    go_enter Try.func26, Try.ntmps26
    go_wp2_with fail
    refine (hg.out _ (by repeat' (first | (with_reducible exact Below.refl _ _) | (with_reducible assumption) | (with_reducible refine Below.alloc ?_ ?_ _) | (with_reducible refine Below.drew ?_) | (with_reducible refine Below.setCell ?_ ?_ _) | (with_reducible refine Below.stepB (by assumption) ?_ ?_) | go_size))).mono ?_
    rintro e w1 ⟨rfl, hbw1⟩
    obtain ⟨hzw1, hcw1, hfw1⟩ := bfacts hbw1; (try simp at hzw1 hcw1 hfw1); (try (have : w.heap.size < w1.heap.size := by omega)); (try (have : w.heap.size + 1 < w1.heap.size := by omega)); (try (have : w.heap.size + 1 + 1 < w1.heap.size := by omega)); (try (have : w.heap.size + 1 + 1 + 1 < w1.heap.size := by omega))
    go_wp2_with (go_at_call 92; refine (HI.out _).mono ?_; rintro e w' ⟨rfl, rfl⟩)
    go_ret2
    exact IntsOut.none HO.out HV.out.symm (by repeat' (first | (with_reducible exact Below.refl _ _) | (with_reducible assumption) | (with_reducible refine Below.alloc ?_ ?_ _) | (with_reducible refine Below.drew ?_) | (with_reducible refine Below.setCell ?_ ?_ _) | (with_reducible refine Below.stepB (by assumption) ?_ ?_) | go_size))
  have HO : Hid (o = nbL T t.toNat m) := ho
  have HV : Hid (true = bb) := hv.symm
  obtain ⟨t0, t1⟩ := inB_iff.1 hq2
  clear ho hv hq2
  obtain ⟨j, rfl⟩ : ∃ j : Nat, t = j := ⟨t.toNat, by omega⟩
  have HO2 : Hid (o = nbL T j m) := HO
  have hj : j < m := by omega
  clear HO t0 t1
  go_enter Try.func26, Try.ntmps26
  go_wp2_with fail
  refine (hg.out _ (by repeat' (first | (with_reducible exact Below.refl _ _) | (with_reducible assumption) | (with_reducible refine Below.alloc ?_ ?_ _) | (with_reducible refine Below.drew ?_) | (with_reducible refine Below.setCell ?_ ?_ _) | (with_reducible refine Below.stepB (by assumption) ?_ ?_) | go_size))).mono ?_
  rintro e w1 ⟨rfl, hbw1⟩
  obtain ⟨hzw1, hcw1, hfw1⟩ := bfacts hbw1; (try simp at hzw1 hcw1 hfw1); (try (have : w.heap.size < w1.heap.size := by omega)); (try (have : w.heap.size + 1 < w1.heap.size := by omega)); (try (have : w.heap.size + 1 + 1 < w1.heap.size := by omega)); (try (have : w.heap.size + 1 + 1 + 1 < w1.heap.size := by omega))
  have hO0 := ownsRow_below (ownsRow_empty w 3 1) hbw1
  go_wp2_with (go_at_call 92; refine (HI.out _).mono ?_; rintro e w' ⟨rfl, rfl⟩)
  go_loopw [8, 9] (fun v6 vc wr => ∃ k : Nat, k ≤ m ∧ vc = .int .i64 k ∧ wr.ownsRow w.heap.size 3 1 v6 (nbL T j k).length ((nbL T j k).map (Value.int .i64)) ∧ Below w.heap.size w wr) (fun v6 vc _ => m - (intOf vc).toNat)
  case atStart => exact ⟨0, Nat.zero_le _, rfl, hO0, by repeat' (first | (with_reducible exact Below.refl _ _) | (with_reducible assumption) | (with_reducible refine Below.alloc ?_ ?_ _) | (with_reducible refine Below.drew ?_) | (with_reducible refine Below.setCell ?_ ?_ _) | (with_reducible refine Below.stepB (by assumption) ?_ ?_) | go_size)⟩
  case round =>
    clear hO0
    obtain ⟨k, hk, rfl, hO, hbr⟩ := hrel
    have hzr := hbr.size
    have hlen : (nbL T j k).length ≤ k := pick_len k
    obtain ⟨A8, c8, rfl⟩ := ownsRow_form hO
    have HO8 := Lib.hid hO
    clear hO
    by_cases hlt : k < m
    · obtain ⟨b, off, rfl, hbl, hbl2, x0, x1, x2⟩ := HS2.out.at (k := k) hbr hlt
      obtain ⟨b', off', hA', _, hbl4, s0, s1, s2⟩ := HS2.out.at (k := j) hbr hj
      obtain ⟨rfl, rfl⟩ : b = b' ∧ off = off' := by simpa using hA'
      have HC := Lib.hid (fun W => l15Third_any (T j) (T k) W)
      generalize hcv : corN (T j) (T k) 3 = cv at HC
      generalize hq : nbB (T j) (T k) = q at HC
      have HQ := Lib.hid hq
      have HBR := Lib.hid hbr
      clear hA' hcv hq hbr
      cases q
      · have HL : Hid (nbL T j (k + 1) = nbL T j k) := pick_miss HQ.out
        go_wp2_with fail
        refine wp_region_later (by kernel_rfl) (by kernel_rfl) (fun hlx => ?_)
        repeat (go_big_quiet_step ((go_at_call 93; with_reducible exact Later.call (HC.out _))))
        refine wpQuiet_nil ?_
        clear hlx
        intro w3 hbw3
        obtain ⟨hzw3, hcw3, hfw3⟩ := bfacts hbw3; (try simp at hzw3 hcw3 hfw3); (try (have : w.heap.size < w3.heap.size := by omega)); (try (have : w.heap.size + 1 < w3.heap.size := by omega)); (try (have : w.heap.size + 1 + 1 < w3.heap.size := by omega)); (try (have : w.heap.size + 1 + 1 + 1 < w3.heap.size := by omega))
        go_wp2
        go_roundw
        case rel => exact ⟨k + 1, by omega, by go_num, by rw [HL.out]; exact ownsRow_below HO8.out (by have hbr := HBR.out; repeat' (first | (with_reducible exact Below.refl _ _) | (with_reducible assumption) | (with_reducible refine Below.alloc ?_ ?_ _) | (with_reducible refine Below.drew ?_) | (with_reducible refine Below.setCell ?_ ?_ _) | (with_reducible refine Below.stepB (by assumption) ?_ ?_) | go_size)), by have hbr := HBR.out; repeat' (first | (with_reducible exact Below.refl _ _) | (with_reducible assumption) | (with_reducible refine Below.alloc ?_ ?_ _) | (with_reducible refine Below.drew ?_) | (with_reducible refine Below.setCell ?_ ?_ _) | (with_reducible refine Below.stepB (by assumption) ?_ ?_) | go_size)⟩
        case measure => simp [intOf]; omega
      · have HL : Hid (nbL T j (k + 1) = nbL T j k ++ [(k : Int)]) := pick_hit HQ.out
        go_wp2_with fail
        refine wp_region_later (by kernel_rfl) (by kernel_rfl) (fun hlx => ?_)
        repeat (go_big_quiet_step ((go_at_call 93; with_reducible exact Later.call (HC.out _))))
        refine wpQuiet_nil ?_
        clear hlx
        intro w3 hbw3
        obtain ⟨hzw3, hcw3, hfw3⟩ := bfacts hbw3; (try simp at hzw3 hcw3 hfw3); (try (have : w.heap.size < w3.heap.size := by omega)); (try (have : w.heap.size + 1 < w3.heap.size := by omega)); (try (have : w.heap.size + 1 + 1 < w3.heap.size := by omega)); (try (have : w.heap.size + 1 + 1 + 1 < w3.heap.size := by omega))
        have hO3 := Lib.hid (ownsRow_below HO8.out (by have hbr := HBR.out; repeat' (first | (with_reducible exact Below.refl _ _) | (with_reducible assumption) | (with_reducible refine Below.alloc ?_ ?_ _) | (with_reducible refine Below.drew ?_) | (with_reducible refine Below.setCell ?_ ?_ _) | (with_reducible refine Below.stepB (by assumption) ?_ ?_) | go_size)) : w3.ownsRow w.heap.size 3 1 _ _ _)
        go_wp2_with (at_builtin; refine wpList_append_int1 _ rfl _ _ 33 rfl w.heap.size 3 i0 Try.underlying33 hi0 hz0 hz1 hz2 _ _ _ rfl (hO3.out.alloc _) _ _ ((k : Int)) rfl ?_ ?_ ?_ ?_; go_must (focus (simp; done)); go_must (focus omega); go_must (focus (simp; omega)); intro v9 w5 hOw5 hbw5; have hzw5 := hbw5.size; (try simp at hzw5))
        go_roundw
        case rel => exact ⟨k + 1, by omega, by go_num, by rw [HL.out]; exact owns_snoc hOw5, by have hbr := HBR.out; repeat' (first | (with_reducible exact Below.refl _ _) | (with_reducible assumption) | (with_reducible refine Below.alloc ?_ ?_ _) | (with_reducible refine Below.drew ?_) | (with_reducible refine Below.setCell ?_ ?_ _) | (with_reducible refine Below.stepB (by assumption) ?_ ?_) | go_size)⟩
        case measure => simp [intOf]; omega
    · obtain rfl : k = m := by omega
      go_wp2
      go_ret2
      exact IntsOut.row HO8.out HO2.out HV.out.symm (by omega) hbr
theorem Neighbors_at (A : Option Addr) (n : Nat) (S : Nat → SP) (A2 : Option Addr) (m : Nat) (T : Nat → Nat → Int) (t : Int) (w : World) (hS : SlSP w A n S) (hS2 : SlT w A2 m T) (hn : n ≤ 1048576) (hm : m ≤ 1048576) :
    Calls Try.prog 25 #[.slice A n n, .slice A2 m m, .int .i64 t] w fun e w' => IntsOut w (nbrO S n T m t) (nbrB S n T m t) e w' := NeighborsOf_any A n n S A2 m m T t w hS hS2 hn hm (Nat.le_refl _) (Nat.le_refl _)
end Go.Proofs.Ytfflbkmncnaffaa
