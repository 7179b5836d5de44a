/- Contracts: the area of a mesh; the first triangle that a spot is in. -/
import Derived.Test.YtfflbkmncnaffaaMeshG
import Derived.Test.YtfflbkmncnaffaaOuts
import Derived.Shelf.Abstract
namespace Go.Proofs.Ytfflbkmncnaffaa
open Go.RowKit
def sumT (S : Nat → SP) (T : Nat → Nat → Int) : Nat → Int
  | 0 => 0
  | k + 1 => sumT S T k + turnV S (T k)
theorem turnV_bd {S : Nat → SP} {n : Nat} {t : Nat → Int} (hsp : ∀ i, i < n → spB (S i) = true) (ht : idxB n t = true) : -2000000 ≤ turnV S t ∧ turnV S t ≤ 2000000 := by
  have h := idxB_at ht
  have h0 := h 0 (by omega)
  have h1 := h 1 (by omega)
  have h2 := h 2 (by omega)
  exact cr_bd (hsp _ (by omega)) (hsp _ (by omega)) (hsp _ (by omega))
theorem sumT_bd {S : Nat → SP} {T : Nat → Nat → Int} {n : Nat} (hsp : ∀ i, i < n → spB (S i) = true) : ∀ k, (∀ i, i < k → idxB n (T i) = true) → -2000000 * (k : Int) ≤ sumT S T k ∧ sumT S T k ≤ 2000000 * (k : Int)
  | 0, _ => by simp [sumT]
  | k + 1, h => by
    have h1 := sumT_bd hsp k (fun i hi => h i (by omega))
    have h2 := turnV_bd hsp (h k (by omega))
    unfold sumT
    omega
def areaO (S : Nat → SP) (n : Nat) (T : Nat → Nat → Int) (m : Nat) : Int := if meshB S n T m = true then sumT S T m else 0
theorem AreaOf_any (A : Option Addr) (n c : Nat) (S : Nat → SP) (A2 : Option Addr) (m c2 : Nat) (T : Nat → Nat → Int) (w : World) (hS : SlSP w A n S) (hS2 : SlT w A2 m T) (hn : n ≤ 1048576) (hm : m ≤ 1048576) (hc : n ≤ c) (hc2 : m ≤ c2) :
    Calls Try.prog 30 #[.slice A n c, .slice A2 m c2] w fun e w' => e = .returned (.tuple #[.int .i64 (areaO S n T m), .bool (meshB S n T m)]) ∧ Below w.heap.size w w' := by
  have hg := Lib.hid (fun W (hb : Below w.heap.size w W) => IsMesh_any A n c S A2 m c2 T W (hS.below hb) (hS2.below hb) hn hm hc hc2)
  have ho : areaO S n T m = if meshB S n T m = true then sumT S T m else 0 := rfl
  have hp := fun h => meshB_parts (S := S) (n := n) (T := T) (m := m) h
  have HS := Lib.hid hS
  have HS2 := Lib.hid hS2
  generalize areaO S n T m = o at ho ⊢
  generalize meshB S n T m = q at hg ho hp ⊢
  clear hS hS2
  cases q
  · have HO : Hid (o = 0) := ho
    clear ho hp
    go_enter Try.func30, Try.ntmps30
    go_wp2_with fail
    refine (hg.out _ (by repeat' (first | (with_reducible exact Below.refl _ _) | (with_reducible assumption) | (with_reducible refine Below.alloc ?_ ?_ _) | (with_reducible refine Below.drew ?_) | (with_reducible refine Below.setCell ?_ ?_ _) | (with_reducible refine Below.stepB (by assumption) ?_ ?_) | go_size))).mono ?_
    rintro e w1 ⟨rfl, hbw1⟩
    obtain ⟨hzw1, hcw1, hfw1⟩ := bfacts hbw1; (try simp at hzw1 hcw1 hfw1); (try (have : w.heap.size < w1.heap.size := by omega)); (try (have : w.heap.size + 1 < w1.heap.size := by omega)); (try (have : w.heap.size + 1 + 1 < w1.heap.size := by omega)); (try (have : w.heap.size + 1 + 1 + 1 < w1.heap.size := by omega))
    go_wp2
    go_ret2
    exact ⟨by rw [HO.out] <;> rfl, by repeat' (first | (with_reducible exact Below.refl _ _) | (with_reducible assumption) | (with_reducible refine Below.alloc ?_ ?_ _) | (with_reducible refine Below.drew ?_) | (with_reducible refine Below.setCell ?_ ?_ _) | (with_reducible refine Below.stepB (by assumption) ?_ ?_) | go_size)⟩
  have HO : Hid (o = sumT S T m) := ho
  obtain ⟨hsp, -, hm12, htr⟩ := hp rfl
  have HSP := Lib.hid hsp
  have HTR := Lib.hid htr
  have HBD := Lib.hid (fun k (hk : k ≤ m) => sumT_bd (T := T) hsp k (fun i hi => trB_idx (htr i (by omega))))
  clear ho hp hsp htr
  go_enter Try.func30, Try.ntmps30
  go_wp2_with fail
  refine (hg.out _ (by repeat' (first | (with_reducible exact Below.refl _ _) | (with_reducible assumption) | (with_reducible refine Below.alloc ?_ ?_ _) | (with_reducible refine Below.drew ?_) | (with_reducible refine Below.setCell ?_ ?_ _) | (with_reducible refine Below.stepB (by assumption) ?_ ?_) | go_size))).mono ?_
  rintro e w1 ⟨rfl, hbw1⟩
  obtain ⟨hzw1, hcw1, hfw1⟩ := bfacts hbw1; (try simp at hzw1 hcw1 hfw1); (try (have : w.heap.size < w1.heap.size := by omega)); (try (have : w.heap.size + 1 < w1.heap.size := by omega)); (try (have : w.heap.size + 1 + 1 < w1.heap.size := by omega)); (try (have : w.heap.size + 1 + 1 + 1 < w1.heap.size := by omega))
  go_wp2
  go_loopw [6, 16] (fun v6 vc wr => ∃ (k : Nat) (s : Int), k ≤ m ∧ vc = .int .i64 k ∧ v6 = .int .i64 s ∧ Hid (s = sumT S T k) ∧ Below w.heap.size w wr) (fun _ vc _ => m - (intOf vc).toNat)
  case atStart => exact ⟨0, 0, Nat.zero_le _, rfl, rfl, rfl, by repeat' (first | (with_reducible exact Below.refl _ _) | (with_reducible assumption) | (with_reducible refine Below.alloc ?_ ?_ _) | (with_reducible refine Below.drew ?_) | (with_reducible refine Below.setCell ?_ ?_ _) | (with_reducible refine Below.stepB (by assumption) ?_ ?_) | go_size)⟩
  case round =>
    obtain ⟨k, s, hk, rfl, rfl, hs, hbr⟩ := hrel
    have hzr := hbr.size
    have hsb := HBD.out k hk
    have hs0 : s = sumT S T k := hs
    rw [← hs0] at hsb
    clear hs0
    by_cases hlt : k < m
    · obtain ⟨b2, off2, rfl, hbl, hbl2, t0, t1, t2⟩ := HS2.out.at hbr hlt
      have hix := trB_idx (HTR.out k hlt)
      have htb := turnV_bd HSP.out hix
      have HC := Lib.hid (fun W (hb : Below w.heap.size w W) => cornersOf_any A n c S (T k) W (HS.out.below hb) hn hix)
      have hid := idxB_at hix
      have HX := Lib.hid (fun W => crossOf_any (cn S (T k) 0).x (cn S (T k) 0).y (cn S (T k) 1).x (cn S (T k) 1).y (cn S (T k) 2).x (cn S (T k) 2).y W (HSP.out _ (by have := hid 0 (by omega); omega)) (HSP.out _ (by have := hid 1 (by omega); omega)) (HSP.out _ (by have := hid 2 (by omega); omega)))
      have HV : Hid (turnV S (T k) = crD (cn S (T k) 0).x (cn S (T k) 0).y (cn S (T k) 1).x (cn S (T k) 1).y (cn S (T k) 2).x (cn S (T k) 2).y) := rfl
      rw [HV.out] at htb
      generalize crD (cn S (T k) 0).x (cn S (T k) 0).y (cn S (T k) 1).x (cn S (T k) 1).y (cn S (T k) 2).x (cn S (T k) 2).y = cv at HX HV htb
      have HN : Hid (s + cv = sumT S T (k + 1)) := by show _ = _; rw [sumT, HV.out, ← hs.out]
      clear hix hid
      go_wp2_with (first | (go_at_call 84; refine (HC.out _ (by repeat' (first | (with_reducible exact Below.refl _ _) | (with_reducible assumption) | (with_reducible refine Below.alloc ?_ ?_ _) | (with_reducible refine Below.drew ?_) | (with_reducible refine Below.setCell ?_ ?_ _) | (with_reducible refine Below.stepB (by assumption) ?_ ?_) | go_size))).mono ?_; rintro e w3 ⟨rfl, hbw3⟩; obtain ⟨hzw3, hcw3, hfw3⟩ := bfacts hbw3; (try simp at hzw3 hcw3 hfw3); (try (have : w.heap.size < w3.heap.size := by omega)); (try (have : w.heap.size + 1 < w3.heap.size := by omega)); (try (have : w.heap.size + 1 + 1 < w3.heap.size := by omega)); (try (have : w.heap.size + 1 + 1 + 1 < w3.heap.size := by omega))) | (go_at_call 68; refine (HX.out _).mono ?_; rintro e w4 ⟨rfl, hbw4⟩; obtain ⟨hzw4, hcw4, hfw4⟩ := bfacts hbw4; (try simp at hzw4 hcw4 hfw4); (try (have : w.heap.size < w4.heap.size := by omega)); (try (have : w.heap.size + 1 < w4.heap.size := by omega)); (try (have : w.heap.size + 1 + 1 < w4.heap.size := by omega)); (try (have : w.heap.size + 1 + 1 + 1 < w4.heap.size := by omega))))
      go_roundw
      case rel => exact ⟨k + 1, s + cv, by omega, by go_num, rfl, HN.out, by repeat' (first | (with_reducible exact Below.refl _ _) | (with_reducible assumption) | (with_reducible refine Below.alloc ?_ ?_ _) | (with_reducible refine Below.drew ?_) | (with_reducible refine Below.setCell ?_ ?_ _) | (with_reducible refine Below.stepB (by assumption) ?_ ?_) | go_size)⟩
      case measure => simp [intOf]; omega
    · obtain rfl : k = m := by omega
      clear hsb
      go_wp2
      go_ret2
      exact ⟨by rw [HO.out, ← hs.out] <;> rfl, by repeat' (first | (with_reducible exact Below.refl _ _) | (with_reducible assumption) | (with_reducible refine Below.alloc ?_ ?_ _) | (with_reducible refine Below.drew ?_) | (with_reducible refine Below.setCell ?_ ?_ _) | (with_reducible refine Below.stepB (by assumption) ?_ ?_) | go_size)⟩
theorem specArea_any (A : Option Addr) (n c : Nat) (S : Nat → SP) (A2 : Option Addr) (m c2 : Nat) (T : Nat → Nat → Int) (w : World) (hS : SlSP w A n S) (hS2 : SlT w A2 m T) (hn : n ≤ 1048576) (hm : m ≤ 1048576) :
    Calls Try.prog 31 #[.slice A n c, .slice A2 m c2] w fun e w' => e = .returned (.tuple #[.int .i64 (areaO S n T m), .bool (meshB S n T m)]) ∧ Below w.heap.size w w' := by
  have hg := Lib.hid (fun W (hb : Below w.heap.size w W) => l15Good_any A n c S A2 m c2 T W (hS.below hb) (hS2.below hb) hn hm)
  have ho : areaO S n T m = if meshB S n T m = true then sumT S T m else 0 := rfl
  have hp := fun h => meshB_parts (S := S) (n := n) (T := T) (m := m) h
  have HS := Lib.hid hS
  have HS2 := Lib.hid hS2
  generalize areaO S n T m = o at ho ⊢
  generalize meshB S n T m = q at hg ho hp ⊢
  clear hS hS2
  cases q
  · have HO : Hid (o = 0) := ho
    clear ho hp
    go_enter Try.func31, Try.ntmps31
    go_wp2_with fail
    refine (hg.out _ (by repeat' (first | (with_reducible exact Below.refl _ _) | (with_reducible assumption) | (with_reducible refine Below.alloc ?_ ?_ _) | (with_reducible refine Below.drew ?_) | (with_reducible refine Below.setCell ?_ ?_ _) | (with_reducible refine Below.stepB (by assumption) ?_ ?_) | go_size))).mono ?_
    rintro e w1 ⟨rfl, hbw1⟩
    obtain ⟨hzw1, hcw1, hfw1⟩ := bfacts hbw1; (try simp at hzw1 hcw1 hfw1); (try (have : w.heap.size < w1.heap.size := by omega)); (try (have : w.heap.size + 1 < w1.heap.size := by omega)); (try (have : w.heap.size + 1 + 1 < w1.heap.size := by omega)); (try (have : w.heap.size + 1 + 1 + 1 < w1.heap.size := by omega))
    go_wp2
    go_ret2
    exact ⟨by rw [HO.out] <;> rfl, by repeat' (first | (with_reducible exact Below.refl _ _) | (with_reducible assumption) | (with_reducible refine Below.alloc ?_ ?_ _) | (with_reducible refine Below.drew ?_) | (with_reducible refine Below.setCell ?_ ?_ _) | (with_reducible refine Below.stepB (by assumption) ?_ ?_) | go_size)⟩
  have HO : Hid (o = sumT S T m) := ho
  obtain ⟨hsp, -, hm12, htr⟩ := hp rfl
  have HSP := Lib.hid hsp
  have HTR := Lib.hid htr
  have HBD := Lib.hid (fun k (hk : k ≤ m) => sumT_bd (T := T) hsp k (fun i hi => trB_idx (htr i (by omega))))
  clear ho hp hsp htr
  go_enter Try.func31, Try.ntmps31
  go_wp2_with fail
  refine (hg.out _ (by repeat' (first | (with_reducible exact Below.refl _ _) | (with_reducible assumption) | (with_reducible refine Below.alloc ?_ ?_ _) | (with_reducible refine Below.drew ?_) | (with_reducible refine Below.setCell ?_ ?_ _) | (with_reducible refine Below.stepB (by assumption) ?_ ?_) | go_size))).mono ?_
  rintro e w1 ⟨rfl, hbw1⟩
  obtain ⟨hzw1, hcw1, hfw1⟩ := bfacts hbw1; (try simp at hzw1 hcw1 hfw1); (try (have : w.heap.size < w1.heap.size := by omega)); (try (have : w.heap.size + 1 < w1.heap.size := by omega)); (try (have : w.heap.size + 1 + 1 < w1.heap.size := by omega)); (try (have : w.heap.size + 1 + 1 + 1 < w1.heap.size := by omega))
  go_wp2
  go_loopw [6, 7] (fun v6 vc wr => ∃ (k : Nat) (s : Int), k ≤ m ∧ vc = .int .i64 k ∧ v6 = .int .i64 s ∧ Hid (s = sumT S T k) ∧ Below w.heap.size w wr) (fun _ vc _ => m - (intOf vc).toNat)
  case atStart => exact ⟨0, 0, Nat.zero_le _, rfl, rfl, rfl, by repeat' (first | (with_reducible exact Below.refl _ _) | (with_reducible assumption) | (with_reducible refine Below.alloc ?_ ?_ _) | (with_reducible refine Below.drew ?_) | (with_reducible refine Below.setCell ?_ ?_ _) | (with_reducible refine Below.stepB (by assumption) ?_ ?_) | go_size)⟩
  case round =>
    obtain ⟨k, s, hk, rfl, rfl, hs, hbr⟩ := hrel
    have hzr := hbr.size
    have hsb := HBD.out k hk
    have hs0 : s = sumT S T k := hs
    rw [← hs0] at hsb
    clear hs0
    by_cases hlt : k < m
    · obtain ⟨b2, off2, rfl, hbl, hbl2, t0, t1, t2⟩ := HS2.out.at hbr hlt
      have hix := trB_idx (HTR.out k hlt)
      have htb := turnV_bd HSP.out hix
      have HX := Lib.hid (l15Turn_any A n c S (T k) wr (HS.out.below hbr) hn HSP.out hix)
      have HN0 : Hid (s + turnV S (T k) = sumT S T (k + 1)) := by show _ = _; rw [sumT, ← hs.out]
      generalize turnV S (T k) = cv at HX HN0 htb
      clear hix
      go_wp2_with (go_at_call 95; refine HX.out.mono ?_; rintro e w4 ⟨rfl, hbw4⟩; obtain ⟨hzw4, hcw4, hfw4⟩ := bfacts hbw4; (try simp at hzw4 hcw4 hfw4); (try (have : w.heap.size < w4.heap.size := by omega)); (try (have : w.heap.size + 1 < w4.heap.size := by omega)); (try (have : w.heap.size + 1 + 1 < w4.heap.size := by omega)); (try (have : w.heap.size + 1 + 1 + 1 < w4.heap.size := by omega)))
      go_roundw
      case rel => exact ⟨k + 1, s + cv, by omega, by go_num, rfl, HN0.out, by repeat' (first | (with_reducible exact Below.refl _ _) | (with_reducible assumption) | (with_reducible refine Below.alloc ?_ ?_ _) | (with_reducible refine Below.drew ?_) | (with_reducible refine Below.setCell ?_ ?_ _) | (with_reducible refine Below.stepB (by assumption) ?_ ?_) | go_size)⟩
      case measure => simp [intOf]; omega
    · obtain rfl : k = m := by omega
      clear hsb
      go_wp2
      go_ret2
      exact ⟨by rw [HO.out, ← hs.out] <;> rfl, by repeat' (first | (with_reducible exact Below.refl _ _) | (with_reducible assumption) | (with_reducible refine Below.alloc ?_ ?_ _) | (with_reducible refine Below.drew ?_) | (with_reducible refine Below.setCell ?_ ?_ _) | (with_reducible refine Below.stepB (by assumption) ?_ ?_) | go_size)⟩
/-- the first triangle that p is in, or -1 -/
def triAt (S : Nat → SP) (T : Nat → Nat → Int) (m : Nat) (p : SP) : Int := idxP (fun i => insB S (T i) p) m
theorem idxTr_any (A2 : Option Addr) (m c2 : Nat) (T : Nat → Nat → Int) (p : (Nat → Int) → Bool) (g : Nat) (lb : Array Value) (w : World) (hS2 : SlT w A2 m T) (hm : m ≤ 1048576)
    (eg : ∀ args w, (callFunc g args).run Try.prog w = .ok (.enter g args) w) (hp : ∀ (k : Nat) W, k < m → Below w.heap.size w W → Calls Try.prog g (#[.agg #[.int .i64 (T k 0), .int .i64 (T k 1), .int .i64 (T k 2)]] ++ lb) W fun e w' => e = .returned (.bool (p (T k))) ∧ Below W.heap.size W w') :
    Calls Try.prog 128 #[.slice A2 m c2, .func (.func g) #[] lb] w fun e w' => e = .returned (.int .i64 (idxP (fun i => p (T i)) m)) ∧ Below w.heap.size w w' := by
  have HP := Lib.hid hp
  clear hp
  go_enter Try.func128, Try.ntmps128
  go_wp2
  go_loopw [8] (fun v8 wr => ∃ k : Nat, k ≤ m ∧ v8 = .int .i64 k ∧ Hid (∀ i, i < k → p (T i) = false) ∧ Below w.heap.size w wr) (fun v8 _ => m - (intOf v8).toNat)
  case atStart => exact ⟨0, Nat.zero_le _, rfl, fun i hi => absurd hi (by omega), by repeat' (first | (with_reducible exact Below.refl _ _) | (with_reducible assumption) | (with_reducible refine Below.alloc ?_ ?_ _) | (with_reducible refine Below.drew ?_) | (with_reducible refine Below.setCell ?_ ?_ _) | (with_reducible refine Below.stepB (by assumption) ?_ ?_) | go_size)⟩
  case round =>
    obtain ⟨k, hk, rfl, hall, hbr⟩ := hrel
    have hzr := hbr.size
    by_cases hlt : k < m
    · obtain ⟨b, off, rfl, hbl, hbl2, c0, c1, c2'⟩ := hS2.at hbr hlt
      have HC := Lib.hid (fun W hb => HP.out k W hlt hb)
      rcases Bool.eq_false_or_eq_true (p (T k)) with hq | hq
      · have HQ := Lib.hid (idxP_some (p := fun i => p (T i)) hq hall m hlt)
        rw [hq] at HC
        go_wp2_with (go_at_fn g; refine (HC.out _ (by repeat' (first | (with_reducible exact Below.refl _ _) | (with_reducible assumption) | (with_reducible refine Below.alloc ?_ ?_ _) | (with_reducible refine Below.drew ?_) | (with_reducible refine Below.setCell ?_ ?_ _) | (with_reducible refine Below.stepB (by assumption) ?_ ?_) | go_size))).mono ?_; rintro e w3 ⟨rfl, hbw3⟩; obtain ⟨hzw3, hcw3, hfw3⟩ := bfacts hbw3; (try simp at hzw3 hcw3 hfw3); (try (have : w.heap.size < w3.heap.size := by omega)); (try (have : w.heap.size + 1 < w3.heap.size := by omega)); (try (have : w.heap.size + 1 + 1 < w3.heap.size := by omega)); (try (have : w.heap.size + 1 + 1 + 1 < w3.heap.size := by omega)))
        go_ret
        exact ⟨ret_int HQ.out.symm, by repeat' (first | (with_reducible exact Below.refl _ _) | (with_reducible assumption) | (with_reducible refine Below.alloc ?_ ?_ _) | (with_reducible refine Below.drew ?_) | (with_reducible refine Below.setCell ?_ ?_ _) | (with_reducible refine Below.stepB (by assumption) ?_ ?_) | go_size)⟩
      · have hall2 : Hid (∀ i, i < k + 1 → p (T i) = false) := fun i hi => by
          rcases Nat.lt_or_ge i k with h1 | h1
          · exact hall i h1
          · obtain rfl : i = k := by omega
            exact hq
        rw [hq] at HC
        go_wp2_with (go_at_fn g; refine (HC.out _ (by repeat' (first | (with_reducible exact Below.refl _ _) | (with_reducible assumption) | (with_reducible refine Below.alloc ?_ ?_ _) | (with_reducible refine Below.drew ?_) | (with_reducible refine Below.setCell ?_ ?_ _) | (with_reducible refine Below.stepB (by assumption) ?_ ?_) | go_size))).mono ?_; rintro e w3 ⟨rfl, hbw3⟩; obtain ⟨hzw3, hcw3, hfw3⟩ := bfacts hbw3; (try simp at hzw3 hcw3 hfw3); (try (have : w.heap.size < w3.heap.size := by omega)); (try (have : w.heap.size + 1 < w3.heap.size := by omega)); (try (have : w.heap.size + 1 + 1 < w3.heap.size := by omega)); (try (have : w.heap.size + 1 + 1 + 1 < w3.heap.size := by omega)))
        go_roundw
        case rel => exact ⟨k + 1, by omega, by go_num, hall2, by repeat' (first | (with_reducible exact Below.refl _ _) | (with_reducible assumption) | (with_reducible refine Below.alloc ?_ ?_ _) | (with_reducible refine Below.drew ?_) | (with_reducible refine Below.setCell ?_ ?_ _) | (with_reducible refine Below.stepB (by assumption) ?_ ?_) | go_size)⟩
        case measure => simp [intOf]; omega
    · obtain rfl : k = m := by omega
      go_wp2
      go_ret
      exact ⟨ret_int (idxP_none hall).symm, by repeat' (first | (with_reducible exact Below.refl _ _) | (with_reducible assumption) | (with_reducible refine Below.alloc ?_ ?_ _) | (with_reducible refine Below.drew ?_) | (with_reducible refine Below.setCell ?_ ?_ _) | (with_reducible refine Below.stepB (by assumption) ?_ ?_) | go_size)⟩
theorem trFn_any (t : Nat → Int) (A : Option Addr) (n c : Nat) (S : Nat → SP) (p : SP) (B1 B2 : Nat) (w : World) (_hB1 : B1 < w.heap.size) (_hB2 : B2 < w.heap.size) (h1 : w.cell? ⟨B1, 0, none⟩ = some (.slice A n c))
    (h2 : w.cell? ⟨B2, 0, none⟩ = some (.int .i64 p.x) ∧ w.cell? ⟨B2, 1, none⟩ = some (.int .i64 p.y)) (hS : SlSP w A n S) (hn : n ≤ 1048576) (hsp : ∀ i, i < n → spB (S i) = true) (ht : idxB n t = true) (hp : spB p = true) :
    Calls Try.prog 129 #[.agg #[.int .i64 (t 0), .int .i64 (t 1), .int .i64 (t 2)], .pointer (some ⟨B1, 0, none⟩), .pointer (some ⟨B2, 0, none⟩)] w fun e w' => e = .returned (.bool (insB S t p)) ∧ Below w.heap.size w w' := by
  obtain ⟨y0, y1⟩ := h2
  have hid := idxB_at ht
  have HC := Lib.hid (fun (x : Later (w.alloc (.cells #[.int .i64 (t 0), .int .i64 (t 1), .int .i64 (t 2)] 41))) => cornersOf_any A n c S t x.w (hS.below (Later.old x (B := w.heap.size) ((Below.refl _ _).alloc (Nat.le_refl _) _) (by simp))) hn ht)
  have HI := Lib.hid (fun W => isIn_any (cn S t 0) (cn S t 1) (cn S t 2) p W (hsp _ (by have := hid 0 (by omega); omega)) (hsp _ (by have := hid 1 (by omega); omega)) (hsp _ (by have := hid 2 (by omega); omega)) hp)
  have HV : Hid (insT (cn S t 0) (cn S t 1) (cn S t 2) p = insB S t p) := rfl
  rw [HV.out] at HI
  clear hid hS hsp ht hp HV
  go_enter Try.func129, Try.ntmps129
  go_wp2
  refine wp_region_later (by kernel_rfl) (by kernel_rfl) (fun hlx => ?_)
  repeat (go_big_quiet_step ((first | (go_at_call 84; with_reducible exact Later.call (HC.out _)) | (go_at_call 86; with_reducible exact Later.call (HI.out _)))))
  refine wpQuiet_nil ?_
  clear hlx
  intro w3 hbw3
  obtain ⟨hzw3, hcw3, hfw3⟩ := bfacts hbw3; (try simp at hzw3 hcw3 hfw3); (try (have : w.heap.size < w3.heap.size := by omega)); (try (have : w.heap.size + 1 < w3.heap.size := by omega)); (try (have : w.heap.size + 1 + 1 < w3.heap.size := by omega)); (try (have : w.heap.size + 1 + 1 + 1 < w3.heap.size := by omega))
  go_wp2
  go_ret
  exact ⟨rfl, by repeat' (first | (with_reducible exact Below.refl _ _) | (with_reducible assumption) | (with_reducible refine Below.alloc ?_ ?_ _) | (with_reducible refine Below.drew ?_) | (with_reducible refine Below.setCell ?_ ?_ _) | (with_reducible refine Below.stepB (by assumption) ?_ ?_) | go_size)⟩
theorem enters_trFn : ∀ args w, (callFunc 129 args).run Try.prog w = .ok (.enter 129 args) w := enters_of Try.func129 (by kernel_rfl) rfl
theorem triangleAt_any (A : Option Addr) (n c : Nat) (S : Nat → SP) (A2 : Option Addr) (m c2 : Nat) (T : Nat → Nat → Int) (p : SP) (w : World) (hS : SlSP w A n S) (hS2 : SlT w A2 m T) (hn : n ≤ 1048576) (hm : m ≤ 1048576)
    (hsp : ∀ i, i < n → spB (S i) = true) (htr : ∀ i, i < m → trB S n (T i) = true) (hp : spB p = true) :
    Calls Try.prog 89 #[.slice A n c, .slice A2 m c2, .agg #[.int .i64 p.x, .int .i64 p.y]] w fun e w' => e = .returned (.int .i64 (triAt S T m p)) ∧ Below w.heap.size w w' := by
  have HC := Lib.hid (fun W (hb : Below w.heap.size w W) B1 B2 (hB1 : B1 < W.heap.size) (hB2 : B2 < W.heap.size) (h1 : W.cell? ⟨B1, 0, none⟩ = some (.slice A n c)) (h2 : W.cell? ⟨B2, 0, none⟩ = some (.int .i64 p.x)) (h3 : W.cell? ⟨B2, 1, none⟩ = some (.int .i64 p.y)) =>
    idxTr_any A2 m c2 T (fun t => insB S t p) _ #[.pointer (some ⟨B1, 0, none⟩), .pointer (some ⟨B2, 0, none⟩)] W (hS2.below hb) hm enters_trFn (fun k W' hk hb' => by
      have hz := hb'.size
      exact trFn_any (T k) A n c S p B1 B2 W' (by omega) (by omega) ((hb'.cell (p := ⟨B1, 0, none⟩) hB1).trans h1) ⟨(hb'.cell (p := ⟨B2, 0, none⟩) hB2).trans h2, (hb'.cell (p := ⟨B2, 1, none⟩) hB2).trans h3⟩ (hS.below (hb.trans (hb'.mono hb.size))) hn hsp (trB_idx (htr k hk)) hp))
  unfold triAt
  clear hS hS2 hsp htr hp
  generalize idxP (fun i => insB S (T i) p) m = r at HC ⊢
  go_enter Try.func89, Try.ntmps89
  go_wp2_with fail
  refine (HC.out _ (by repeat' (first | (with_reducible exact Below.refl _ _) | (with_reducible assumption) | (with_reducible refine Below.alloc ?_ ?_ _) | (with_reducible refine Below.drew ?_) | (with_reducible refine Below.setCell ?_ ?_ _) | (with_reducible refine Below.stepB (by assumption) ?_ ?_) | go_size)) w.heap.size (w.heap.size + 1) (by simp <;> omega) (by simp <;> omega) (by simp) (by simp) (by simp)).mono ?_
  rintro e w1 ⟨rfl, hbw1⟩
  obtain ⟨hzw1, hcw1, hfw1⟩ := bfacts hbw1; (try simp at hzw1 hcw1 hfw1); (try (have : w.heap.size < w1.heap.size := by omega)); (try (have : w.heap.size + 1 < w1.heap.size := by omega)); (try (have : w.heap.size + 1 + 1 < w1.heap.size := by omega)); (try (have : w.heap.size + 1 + 1 + 1 < w1.heap.size := by omega))
  go_wp2
  go_ret
  exact ⟨rfl, by repeat' (first | (with_reducible exact Below.refl _ _) | (with_reducible assumption) | (with_reducible refine Below.alloc ?_ ?_ _) | (with_reducible refine Below.drew ?_) | (with_reducible refine Below.setCell ?_ ?_ _) | (with_reducible refine Below.stepB (by assumption) ?_ ?_) | go_size)⟩
theorem l15At_any (A : Option Addr) (n c : Nat) (S : Nat → SP) (A2 : Option Addr) (m c2 : Nat) (T : Nat → Nat → Int) (p : SP) (w : World) (hS : SlSP w A n S) (hS2 : SlT w A2 m T) (hn : n ≤ 1048576) (hm : m ≤ 1048576)
    (hsp : ∀ i, i < n → spB (S i) = true) (htr : ∀ i, i < m → trB S n (T i) = true) (hp : spB p = true) :
    Calls Try.prog 76 #[.slice A n c, .slice A2 m c2, .agg #[.int .i64 p.x, .int .i64 p.y]] w fun e w' => e = .returned (.int .i64 (triAt S T m p)) ∧ Below w.heap.size w w' := by
  have HI := Lib.hid (fun k (hk : k < m) W (hb : Below w.heap.size w W) => l15Inside_any A n c S (T k) p W (hS.below hb) hn hsp (trB_idx (htr k hk)) hp)
  have HS2 := Lib.hid hS2
  clear hS hS2 hsp htr hp
  go_enter Try.func76, Try.ntmps76
  go_wp2
  go_loopw [7] (fun v8 wr => ∃ k : Nat, k ≤ m ∧ v8 = .int .i64 k ∧ Hid (∀ i, i < k → insB S (T i) p = false) ∧ Blk wr w.heap.size 26 #[.int .i64 p.x, .int .i64 p.y] ∧ Below w.heap.size w wr) (fun v8 _ => m - (intOf v8).toNat)
  case atStart => exact ⟨0, Nat.zero_le _, rfl, fun i hi => absurd hi (by omega), Blk.new _ _ _, by repeat' (first | (with_reducible exact Below.refl _ _) | (with_reducible assumption) | (with_reducible refine Below.alloc ?_ ?_ _) | (with_reducible refine Below.drew ?_) | (with_reducible refine Below.setCell ?_ ?_ _) | (with_reducible refine Below.stepB (by assumption) ?_ ?_) | go_size)⟩
  case round =>
    obtain ⟨k, hk, rfl, hall, hB, hbr⟩ := hrel
    have hzr := hbr.size
    obtain ⟨hlB, p0, p1⟩ := hB.two
    have HB := Lib.hid hB
    clear hB
    by_cases hlt : k < m
    · obtain ⟨b, off, rfl, hbl, hbl2, c0, c1, c2'⟩ := HS2.out.at hbr hlt
      have HC := Lib.hid (fun (x : Later wr) => HI.out k hlt x.w (Later.old x hbr (by omega)))
      have HBR := Lib.hid hbr
      clear hbr
      generalize hq : insB S (T k) p = q at HC
      have HQ0 := Lib.hid hq
      clear hq
      cases q
      · have hall2 : Hid (∀ i, i < k + 1 → insB S (T i) p = false) := fun i hi => by
          rcases Nat.lt_or_ge i k with h1 | h1
          · exact hall i h1
          · obtain rfl : i = k := by omega
            exact HQ0.out
        go_wp2_with fail
        refine wp_region_later (by kernel_rfl) (by kernel_rfl) (fun hlx => ?_)
        repeat (go_big_quiet_step ((go_at_call 118; with_reducible exact Later.call (HC.out _))))
        refine wpQuiet_nil ?_
        clear hlx
        intro w3 hbw3
        obtain ⟨hzw3, hcw3, hfw3⟩ := bfacts hbw3; (try simp at hzw3 hcw3 hfw3); (try (have : w.heap.size < w3.heap.size := by omega)); (try (have : w.heap.size + 1 < w3.heap.size := by omega)); (try (have : w.heap.size + 1 + 1 < w3.heap.size := by omega)); (try (have : w.heap.size + 1 + 1 + 1 < w3.heap.size := by omega))
        go_wp2
        go_roundw
        case rel => exact ⟨k + 1, by omega, by go_num, hall2, HB.out.below hbw3 hlB, HBR.out.trans (hbw3.mono hzr)⟩
        case measure => simp [intOf]; omega
      · have HQ := Lib.hid (idxP_some (p := fun i => insB S (T i) p) HQ0.out hall m hlt)
        go_wp2_with fail
        refine wp_region_later (by kernel_rfl) (by kernel_rfl) (fun hlx => ?_)
        repeat (go_big_quiet_step ((go_at_call 118; with_reducible exact Later.call (HC.out _))))
        refine wpQuiet_nil ?_
        clear hlx
        intro w3 hbw3
        obtain ⟨hzw3, hcw3, hfw3⟩ := bfacts hbw3; (try simp at hzw3 hcw3 hfw3); (try (have : w.heap.size < w3.heap.size := by omega)); (try (have : w.heap.size + 1 < w3.heap.size := by omega)); (try (have : w.heap.size + 1 + 1 < w3.heap.size := by omega)); (try (have : w.heap.size + 1 + 1 + 1 < w3.heap.size := by omega))
        go_wp2
        go_ret
        exact ⟨ret_int HQ.out.symm, HBR.out.trans (hbw3.mono hzr)⟩
    · obtain rfl : k = m := by omega
      clear p0 p1
      go_wp2
      go_ret
      exact ⟨ret_int (idxP_none hall).symm, by repeat' (first | (with_reducible exact Below.refl _ _) | (with_reducible assumption) | (with_reducible refine Below.alloc ?_ ?_ _) | (with_reducible refine Below.drew ?_) | (with_reducible refine Below.setCell ?_ ?_ _) | (with_reducible refine Below.stepB (by assumption) ?_ ?_) | go_size)⟩
def tAtB (S : Nat → SP) (n : Nat) (T : Nat → Nat → Int) (m : Nat) (p : SP) : Bool := meshB S n T m && (spB p && decide (0 ≤ triAt S T m p))
def tAtO (S : Nat → SP) (n : Nat) (T : Nat → Nat → Int) (m : Nat) (p : SP) : Int := if tAtB S n T m p = true then triAt S T m p else 0
theorem TriangleAt_any (A : Option Addr) (n c : Nat) (S : Nat → SP) (A2 : Option Addr) (m c2 : Nat) (T : Nat → Nat → Int) (p : SP) (w : World) (hS : SlSP w A n S) (hS2 : SlT w A2 m T) (hn : n ≤ 1048576) (hm : m ≤ 1048576) (hc : n ≤ c) (hc2 : m ≤ c2) :
    Calls Try.prog 23 #[.slice A n c, .slice A2 m c2, .agg #[.int .i64 p.x, .int .i64 p.y]] w fun e w' => e = .returned (.tuple #[.int .i64 (tAtO S n T m p), .bool (tAtB S n T m p)]) ∧ Below w.heap.size w w' := by
  have hg := Lib.hid (fun W (hb : Below w.heap.size w W) => IsMesh_any A n c S A2 m c2 T W (hS.below hb) (hS2.below hb) hn hm hc hc2)
  have hp := fun h => meshB_parts (S := S) (n := n) (T := T) (m := m) h
  have hs := fun W => IsSpot_any p.x p.y W
  have hat := Lib.hid (fun W (hb : Below w.heap.size w W) (h : meshB S n T m = true) (h2 : spB p = true) => triangleAt_any A n c S A2 m c2 T p W (hS.below hb) (hS2.below hb) hn hm (meshB_parts h).1 (meshB_parts h).2.2.2 h2)
  have hv : tAtB S n T m p = (meshB S n T m && (spB p && decide (0 ≤ triAt S T m p))) := rfl
  have ho : tAtO S n T m p = if tAtB S n T m p = true then triAt S T m p else 0 := rfl
  rw [hv] at ho
  generalize tAtO S n T m p = o at ho ⊢
  generalize tAtB S n T m p = bb at hv ⊢
  have hspd : spotB p.x p.y = spB p := rfl
  rw [hspd] at hs
  generalize triAt S T m p = r at hat hv ho
  generalize meshB S n T m = q at hg hv ho hat
  generalize spB p = q2 at hs hv ho hat
  have HSP := Lib.hid hs
  clear hS hS2 hp hs hspd
  cases q
  · have HO : Hid (o = 0) := ho
    have HV : Hid (bb = false) := hv
    clear ho hv
    go_enter Try.func23, Try.ntmps23
    go_wp2_with fail
    refine (hg.out _ (by repeat' (first | (with_reducible exact Below.refl _ _) | (with_reducible assumption) | (with_reducible refine Below.alloc ?_ ?_ _) | (with_reducible refine Below.drew ?_) | (with_reducible refine Below.setCell ?_ ?_ _) | (with_reducible refine Below.stepB (by assumption) ?_ ?_) | go_size))).mono ?_
    rintro e w1 ⟨rfl, hbw1⟩
    obtain ⟨hzw1, hcw1, hfw1⟩ := bfacts hbw1; (try simp at hzw1 hcw1 hfw1); (try (have : w.heap.size < w1.heap.size := by omega)); (try (have : w.heap.size + 1 < w1.heap.size := by omega)); (try (have : w.heap.size + 1 + 1 < w1.heap.size := by omega)); (try (have : w.heap.size + 1 + 1 + 1 < w1.heap.size := by omega))
    go_wp2
    go_ret2
    exact ⟨by rw [HO.out, HV.out] <;> rfl, by repeat' (first | (with_reducible exact Below.refl _ _) | (with_reducible assumption) | (with_reducible refine Below.alloc ?_ ?_ _) | (with_reducible refine Below.drew ?_) | (with_reducible refine Below.setCell ?_ ?_ _) | (with_reducible refine Below.stepB (by assumption) ?_ ?_) | go_size)⟩
  cases q2
  · have HO : Hid (o = 0) := ho
    have HV : Hid (bb = false) := hv
    clear ho hv
    go_enter Try.func23, Try.ntmps23
    go_wp2_with fail
    refine (hg.out _ (by repeat' (first | (with_reducible exact Below.refl _ _) | (with_reducible assumption) | (with_reducible refine Below.alloc ?_ ?_ _) | (with_reducible refine Below.drew ?_) | (with_reducible refine Below.setCell ?_ ?_ _) | (with_reducible refine Below.stepB (by assumption) ?_ ?_) | go_size))).mono ?_
    rintro e w1 ⟨rfl, hbw1⟩
    obtain ⟨hzw1, hcw1, hfw1⟩ := bfacts hbw1; (try simp at hzw1 hcw1 hfw1); (try (have : w.heap.size < w1.heap.size := by omega)); (try (have : w.heap.size + 1 < w1.heap.size := by omega)); (try (have : w.heap.size + 1 + 1 < w1.heap.size := by omega)); (try (have : w.heap.size + 1 + 1 + 1 < w1.heap.size := by omega))
    go_wp2_with (go_at_call 67; refine (HSP.out _).mono ?_; rintro e w2 ⟨rfl, hbw2⟩; obtain ⟨hzw2, hcw2, hfw2⟩ := bfacts hbw2; (try simp at hzw2 hcw2 hfw2); (try (have : w.heap.size < w2.heap.size := by omega)); (try (have : w.heap.size + 1 < w2.heap.size := by omega)); (try (have : w.heap.size + 1 + 1 < w2.heap.size := by omega)); (try (have : w.heap.size + 1 + 1 + 1 < w2.heap.size := by omega)))
    go_ret2
    exact ⟨by rw [HO.out, HV.out] <;> rfl, by repeat' (first | (with_reducible exact Below.refl _ _) | (with_reducible assumption) | (with_reducible refine Below.alloc ?_ ?_ _) | (with_reducible refine Below.drew ?_) | (with_reducible refine Below.setCell ?_ ?_ _) | (with_reducible refine Below.stepB (by assumption) ?_ ?_) | go_size)⟩
  have HAT := Lib.hid (fun W hb => hat.out W hb rfl rfl)
  clear hat
  by_cases hr : 0 ≤ r
  · have HO : Hid (o = r) := by show _ = _; rw [ho, if_pos (by simp [hr])]
    have HV : Hid (bb = true) := by show _ = _; rw [hv]; simp [hr]
    have hr2 : ¬ r < 0 := by omega
    clear ho hv
    go_enter Try.func23, Try.ntmps23
    go_wp2_with fail
    refine (hg.out _ (by repeat' (first | (with_reducible exact Below.refl _ _) | (with_reducible assumption) | (with_reducible refine Below.alloc ?_ ?_ _) | (with_reducible refine Below.drew ?_) | (with_reducible refine Below.setCell ?_ ?_ _) | (with_reducible refine Below.stepB (by assumption) ?_ ?_) | go_size))).mono ?_
    rintro e w1 ⟨rfl, hbw1⟩
    obtain ⟨hzw1, hcw1, hfw1⟩ := bfacts hbw1; (try simp at hzw1 hcw1 hfw1); (try (have : w.heap.size < w1.heap.size := by omega)); (try (have : w.heap.size + 1 < w1.heap.size := by omega)); (try (have : w.heap.size + 1 + 1 < w1.heap.size := by omega)); (try (have : w.heap.size + 1 + 1 + 1 < w1.heap.size := by omega))
    go_wp2_with fail
    refine (HSP.out _).mono ?_
    rintro e w2 ⟨rfl, hbw2⟩
    obtain ⟨hzw2, hcw2, hfw2⟩ := bfacts hbw2; (try simp at hzw2 hcw2 hfw2); (try (have : w.heap.size < w2.heap.size := by omega)); (try (have : w.heap.size + 1 < w2.heap.size := by omega)); (try (have : w.heap.size + 1 + 1 < w2.heap.size := by omega)); (try (have : w.heap.size + 1 + 1 + 1 < w2.heap.size := by omega))
    go_wp2_with fail
    refine (HAT.out _ (by repeat' (first | (with_reducible exact Below.refl _ _) | (with_reducible assumption) | (with_reducible refine Below.alloc ?_ ?_ _) | (with_reducible refine Below.drew ?_) | (with_reducible refine Below.setCell ?_ ?_ _) | (with_reducible refine Below.stepB (by assumption) ?_ ?_) | go_size))).mono ?_
    rintro e w3 ⟨rfl, hbw3⟩
    obtain ⟨hzw3, hcw3, hfw3⟩ := bfacts hbw3; (try simp at hzw3 hcw3 hfw3); (try (have : w.heap.size < w3.heap.size := by omega)); (try (have : w.heap.size + 1 < w3.heap.size := by omega)); (try (have : w.heap.size + 1 + 1 < w3.heap.size := by omega)); (try (have : w.heap.size + 1 + 1 + 1 < w3.heap.size := by omega))
    go_wp2_with fail
    refine (HAT.out _ (by repeat' (first | (with_reducible exact Below.refl _ _) | (with_reducible assumption) | (with_reducible refine Below.alloc ?_ ?_ _) | (with_reducible refine Below.drew ?_) | (with_reducible refine Below.setCell ?_ ?_ _) | (with_reducible refine Below.stepB (by assumption) ?_ ?_) | go_size))).mono ?_
    rintro e w4 ⟨rfl, hbw4⟩
    obtain ⟨hzw4, hcw4, hfw4⟩ := bfacts hbw4; (try simp at hzw4 hcw4 hfw4); (try (have : w.heap.size < w4.heap.size := by omega)); (try (have : w.heap.size + 1 < w4.heap.size := by omega)); (try (have : w.heap.size + 1 + 1 < w4.heap.size := by omega)); (try (have : w.heap.size + 1 + 1 + 1 < w4.heap.size := by omega))
    go_wp2
    go_ret2
    exact ⟨by rw [HO.out, HV.out] <;> rfl, by repeat' (first | (with_reducible exact Below.refl _ _) | (with_reducible assumption) | (with_reducible refine Below.alloc ?_ ?_ _) | (with_reducible refine Below.drew ?_) | (with_reducible refine Below.setCell ?_ ?_ _) | (with_reducible refine Below.stepB (by assumption) ?_ ?_) | go_size)⟩
  · have HO : Hid (o = 0) := by show _ = _; rw [ho, if_neg (by simp [hr])]
    have HV : Hid (bb = false) := by show _ = _; rw [hv]; simp; omega
    have hr2 : r < 0 := by omega
    clear ho hv hr
    go_enter Try.func23, Try.ntmps23
    go_wp2_with fail
    refine (hg.out _ (by repeat' (first | (with_reducible exact Below.refl _ _) | (with_reducible assumption) | (with_reducible refine Below.alloc ?_ ?_ _) | (with_reducible refine Below.drew ?_) | (with_reducible refine Below.setCell ?_ ?_ _) | (with_reducible refine Below.stepB (by assumption) ?_ ?_) | go_size))).mono ?_
    rintro e w1 ⟨rfl, hbw1⟩
    obtain ⟨hzw1, hcw1, hfw1⟩ := bfacts hbw1; (try simp at hzw1 hcw1 hfw1); (try (have : w.heap.size < w1.heap.size := by omega)); (try (have : w.heap.size + 1 < w1.heap.size := by omega)); (try (have : w.heap.size + 1 + 1 < w1.heap.size := by omega)); (try (have : w.heap.size + 1 + 1 + 1 < w1.heap.size := by omega))
    go_wp2_with fail
    refine (HSP.out _).mono ?_
    rintro e w2 ⟨rfl, hbw2⟩
    obtain ⟨hzw2, hcw2, hfw2⟩ := bfacts hbw2; (try simp at hzw2 hcw2 hfw2); (try (have : w.heap.size < w2.heap.size := by omega)); (try (have : w.heap.size + 1 < w2.heap.size := by omega)); (try (have : w.heap.size + 1 + 1 < w2.heap.size := by omega)); (try (have : w.heap.size + 1 + 1 + 1 < w2.heap.size := by omega))
    go_wp2_with fail
    refine (HAT.out _ (by repeat' (first | (with_reducible exact Below.refl _ _) | (with_reducible assumption) | (with_reducible refine Below.alloc ?_ ?_ _) | (with_reducible refine Below.drew ?_) | (with_reducible refine Below.setCell ?_ ?_ _) | (with_reducible refine Below.stepB (by assumption) ?_ ?_) | go_size))).mono ?_
    rintro e w3 ⟨rfl, hbw3⟩
    obtain ⟨hzw3, hcw3, hfw3⟩ := bfacts hbw3; (try simp at hzw3 hcw3 hfw3); (try (have : w.heap.size < w3.heap.size := by omega)); (try (have : w.heap.size + 1 < w3.heap.size := by omega)); (try (have : w.heap.size + 1 + 1 < w3.heap.size := by omega)); (try (have : w.heap.size + 1 + 1 + 1 < w3.heap.size := by omega))
    go_wp2
    go_ret2
    exact ⟨by rw [HO.out, HV.out] <;> rfl, by repeat' (first | (with_reducible exact Below.refl _ _) | (with_reducible assumption) | (with_reducible refine Below.alloc ?_ ?_ _) | (with_reducible refine Below.drew ?_) | (with_reducible refine Below.setCell ?_ ?_ _) | (with_reducible refine Below.stepB (by assumption) ?_ ?_) | go_size)⟩
theorem specTriAt_any (A : Option Addr) (n c : Nat) (S : Nat → SP) (A2 : Option Addr) (m c2 : Nat) (T : Nat → Nat → Int) (p : SP) (w : World) (hS : SlSP w A n S) (hS2 : SlT w A2 m T) (hn : n ≤ 1048576) (hm : m ≤ 1048576) :
    Calls Try.prog 33 #[.slice A n c, .slice A2 m c2, .agg #[.int .i64 p.x, .int .i64 p.y]] w fun e w' => e = .returned (.tuple #[.int .i64 (tAtO S n T m p), .bool (tAtB S n T m p)]) ∧ Below w.heap.size w w' := by
  have hg := Lib.hid (fun W (hb : Below w.heap.size w W) => l15Good_any A n c S A2 m c2 T W (hS.below hb) (hS2.below hb) hn hm)
  have hp := fun h => meshB_parts (S := S) (n := n) (T := T) (m := m) h
  have hs := fun W => l2Spot_any p.x p.y W
  have hat := Lib.hid (fun W (hb : Below w.heap.size w W) (h : meshB S n T m = true) (h2 : spB p = true) => l15At_any A n c S A2 m c2 T p W (hS.below hb) (hS2.below hb) hn hm (meshB_parts h).1 (meshB_parts h).2.2.2 h2)
  have hv : tAtB S n T m p = (meshB S n T m && (spB p && decide (0 ≤ triAt S T m p))) := rfl
  have ho : tAtO S n T m p = if tAtB S n T m p = true then triAt S T m p else 0 := rfl
  rw [hv] at ho
  generalize tAtO S n T m p = o at ho ⊢
  generalize tAtB S n T m p = bb at hv ⊢
  have hspd : spotB p.x p.y = spB p := rfl
  rw [hspd] at hs
  generalize triAt S T m p = r at hat hv ho
  generalize meshB S n T m = q at hg hv ho hat
  generalize spB p = q2 at hs hv ho hat
  have HSP := Lib.hid hs
  clear hS hS2 hp hs hspd
  cases q
  · have HO : Hid (o = 0) := ho
    have HV : Hid (bb = false) := hv
    clear ho hv
    go_enter Try.func33, Try.ntmps33
    go_wp2_with fail
    refine (hg.out _ (by repeat' (first | (with_reducible exact Below.refl _ _) | (with_reducible assumption) | (with_reducible refine Below.alloc ?_ ?_ _) | (with_reducible refine Below.drew ?_) | (with_reducible refine Below.setCell ?_ ?_ _) | (with_reducible refine Below.stepB (by assumption) ?_ ?_) | go_size))).mono ?_
    rintro e w1 ⟨rfl, hbw1⟩
    obtain ⟨hzw1, hcw1, hfw1⟩ := bfacts hbw1; (try simp at hzw1 hcw1 hfw1); (try (have : w.heap.size < w1.heap.size := by omega)); (try (have : w.heap.size + 1 < w1.heap.size := by omega)); (try (have : w.heap.size + 1 + 1 < w1.heap.size := by omega)); (try (have : w.heap.size + 1 + 1 + 1 < w1.heap.size := by omega))
    go_wp2
    go_ret2
    exact ⟨by rw [HO.out, HV.out] <;> rfl, by repeat' (first | (with_reducible exact Below.refl _ _) | (with_reducible assumption) | (with_reducible refine Below.alloc ?_ ?_ _) | (with_reducible refine Below.drew ?_) | (with_reducible refine Below.setCell ?_ ?_ _) | (with_reducible refine Below.stepB (by assumption) ?_ ?_) | go_size)⟩
  cases q2
  · have HO : Hid (o = 0) := ho
    have HV : Hid (bb = false) := hv
    clear ho hv
    go_enter Try.func33, Try.ntmps33
    go_wp2_with fail
    refine (hg.out _ (by repeat' (first | (with_reducible exact Below.refl _ _) | (with_reducible assumption) | (with_reducible refine Below.alloc ?_ ?_ _) | (with_reducible refine Below.drew ?_) | (with_reducible refine Below.setCell ?_ ?_ _) | (with_reducible refine Below.stepB (by assumption) ?_ ?_) | go_size))).mono ?_
    rintro e w1 ⟨rfl, hbw1⟩
    obtain ⟨hzw1, hcw1, hfw1⟩ := bfacts hbw1; (try simp at hzw1 hcw1 hfw1); (try (have : w.heap.size < w1.heap.size := by omega)); (try (have : w.heap.size + 1 < w1.heap.size := by omega)); (try (have : w.heap.size + 1 + 1 < w1.heap.size := by omega)); (try (have : w.heap.size + 1 + 1 + 1 < w1.heap.size := by omega))
    go_wp2_with (go_at_call 64; refine (HSP.out _).mono ?_; rintro e w2 ⟨rfl, hbw2⟩; obtain ⟨hzw2, hcw2, hfw2⟩ := bfacts hbw2; (try simp at hzw2 hcw2 hfw2); (try (have : w.heap.size < w2.heap.size := by omega)); (try (have : w.heap.size + 1 < w2.heap.size := by omega)); (try (have : w.heap.size + 1 + 1 < w2.heap.size := by omega)); (try (have : w.heap.size + 1 + 1 + 1 < w2.heap.size := by omega)))
    go_ret2
    exact ⟨by rw [HO.out, HV.out] <;> rfl, by repeat' (first | (with_reducible exact Below.refl _ _) | (with_reducible assumption) | (with_reducible refine Below.alloc ?_ ?_ _) | (with_reducible refine Below.drew ?_) | (with_reducible refine Below.setCell ?_ ?_ _) | (with_reducible refine Below.stepB (by assumption) ?_ ?_) | go_size)⟩
  have HAT := Lib.hid (fun W hb => hat.out W hb rfl rfl)
  clear hat
  by_cases hr : 0 ≤ r
  · have HO : Hid (o = r) := by show _ = _; rw [ho, if_pos (by simp [hr])]
    have HV : Hid (bb = true) := by show _ = _; rw [hv]; simp [hr]
    have hr2 : ¬ r < 0 := by omega
    clear ho hv
    go_enter Try.func33, Try.ntmps33
    go_wp2_with fail
    refine (hg.out _ (by repeat' (first | (with_reducible exact Below.refl _ _) | (with_reducible assumption) | (with_reducible refine Below.alloc ?_ ?_ _) | (with_reducible refine Below.drew ?_) | (with_reducible refine Below.setCell ?_ ?_ _) | (with_reducible refine Below.stepB (by assumption) ?_ ?_) | go_size))).mono ?_
    rintro e w1 ⟨rfl, hbw1⟩
    obtain ⟨hzw1, hcw1, hfw1⟩ := bfacts hbw1; (try simp at hzw1 hcw1 hfw1); (try (have : w.heap.size < w1.heap.size := by omega)); (try (have : w.heap.size + 1 < w1.heap.size := by omega)); (try (have : w.heap.size + 1 + 1 < w1.heap.size := by omega)); (try (have : w.heap.size + 1 + 1 + 1 < w1.heap.size := by omega))
    go_wp2_with fail
    refine (HSP.out _).mono ?_
    rintro e w2 ⟨rfl, hbw2⟩
    obtain ⟨hzw2, hcw2, hfw2⟩ := bfacts hbw2; (try simp at hzw2 hcw2 hfw2); (try (have : w.heap.size < w2.heap.size := by omega)); (try (have : w.heap.size + 1 < w2.heap.size := by omega)); (try (have : w.heap.size + 1 + 1 < w2.heap.size := by omega)); (try (have : w.heap.size + 1 + 1 + 1 < w2.heap.size := by omega))
    go_wp2_with fail
    refine (HAT.out _ (by repeat' (first | (with_reducible exact Below.refl _ _) | (with_reducible assumption) | (with_reducible refine Below.alloc ?_ ?_ _) | (with_reducible refine Below.drew ?_) | (with_reducible refine Below.setCell ?_ ?_ _) | (with_reducible refine Below.stepB (by assumption) ?_ ?_) | go_size))).mono ?_
    rintro e w3 ⟨rfl, hbw3⟩
    obtain ⟨hzw3, hcw3, hfw3⟩ := bfacts hbw3; (try simp at hzw3 hcw3 hfw3); (try (have : w.heap.size < w3.heap.size := by omega)); (try (have : w.heap.size + 1 < w3.heap.size := by omega)); (try (have : w.heap.size + 1 + 1 < w3.heap.size := by omega)); (try (have : w.heap.size + 1 + 1 + 1 < w3.heap.size := by omega))
    go_wp2_with fail
    refine (HAT.out _ (by repeat' (first | (with_reducible exact Below.refl _ _) | (with_reducible assumption) | (with_reducible refine Below.alloc ?_ ?_ _) | (with_reducible refine Below.drew ?_) | (with_reducible refine Below.setCell ?_ ?_ _) | (with_reducible refine Below.stepB (by assumption) ?_ ?_) | go_size))).mono ?_
    rintro e w4 ⟨rfl, hbw4⟩
    obtain ⟨hzw4, hcw4, hfw4⟩ := bfacts hbw4; (try simp at hzw4 hcw4 hfw4); (try (have : w.heap.size < w4.heap.size := by omega)); (try (have : w.heap.size + 1 < w4.heap.size := by omega)); (try (have : w.heap.size + 1 + 1 < w4.heap.size := by omega)); (try (have : w.heap.size + 1 + 1 + 1 < w4.heap.size := by omega))
    go_wp2
    go_ret2
    exact ⟨by rw [HO.out, HV.out] <;> rfl, by repeat' (first | (with_reducible exact Below.refl _ _) | (with_reducible assumption) | (with_reducible refine Below.alloc ?_ ?_ _) | (with_reducible refine Below.drew ?_) | (with_reducible refine Below.setCell ?_ ?_ _) | (with_reducible refine Below.stepB (by assumption) ?_ ?_) | go_size)⟩
  · have HO : Hid (o = 0) := by show _ = _; rw [ho, if_neg (by simp [hr])]
    have HV : Hid (bb = false) := by show _ = _; rw [hv]; simp; omega
    have hr2 : r < 0 := by omega
    clear ho hv hr
    go_enter Try.func33, Try.ntmps33
    go_wp2_with fail
    refine (hg.out _ (by repeat' (first | (with_reducible exact Below.refl _ _) | (with_reducible assumption) | (with_reducible refine Below.alloc ?_ ?_ _) | (with_reducible refine Below.drew ?_) | (with_reducible refine Below.setCell ?_ ?_ _) | (with_reducible refine Below.stepB (by assumption) ?_ ?_) | go_size))).mono ?_
    rintro e w1 ⟨rfl, hbw1⟩
    obtain ⟨hzw1, hcw1, hfw1⟩ := bfacts hbw1; (try simp at hzw1 hcw1 hfw1); (try (have : w.heap.size < w1.heap.size := by omega)); (try (have : w.heap.size + 1 < w1.heap.size := by omega)); (try (have : w.heap.size + 1 + 1 < w1.heap.size := by omega)); (try (have : w.heap.size + 1 + 1 + 1 < w1.heap.size := by omega))
    go_wp2_with fail
    refine (HSP.out _).mono ?_
    rintro e w2 ⟨rfl, hbw2⟩
    obtain ⟨hzw2, hcw2, hfw2⟩ := bfacts hbw2; (try simp at hzw2 hcw2 hfw2); (try (have : w.heap.size < w2.heap.size := by omega)); (try (have : w.heap.size + 1 < w2.heap.size := by omega)); (try (have : w.heap.size + 1 + 1 < w2.heap.size := by omega)); (try (have : w.heap.size + 1 + 1 + 1 < w2.heap.size := by omega))
    go_wp2_with fail
    refine (HAT.out _ (by repeat' (first | (with_reducible exact Below.refl _ _) | (with_reducible assumption) | (with_reducible refine Below.alloc ?_ ?_ _) | (with_reducible refine Below.drew ?_) | (with_reducible refine Below.setCell ?_ ?_ _) | (with_reducible refine Below.stepB (by assumption) ?_ ?_) | go_size))).mono ?_
    rintro e w3 ⟨rfl, hbw3⟩
    obtain ⟨hzw3, hcw3, hfw3⟩ := bfacts hbw3; (try simp at hzw3 hcw3 hfw3); (try (have : w.heap.size < w3.heap.size := by omega)); (try (have : w.heap.size + 1 < w3.heap.size := by omega)); (try (have : w.heap.size + 1 + 1 < w3.heap.size := by omega)); (try (have : w.heap.size + 1 + 1 + 1 < w3.heap.size := by omega))
    go_wp2
    go_ret2
    exact ⟨by rw [HO.out, HV.out] <;> rfl, by repeat' (first | (with_reducible exact Below.refl _ _) | (with_reducible assumption) | (with_reducible refine Below.alloc ?_ ?_ _) | (with_reducible refine Below.drew ?_) | (with_reducible refine Below.setCell ?_ ?_ _) | (with_reducible refine Below.stepB (by assumption) ?_ ?_) | go_size)⟩
theorem Area_at (A : Option Addr) (n : Nat) (S : Nat → SP) (A2 : Option Addr) (m : Nat) (T : Nat → Nat → Int) (w : World) (hS : SlSP w A n S) (hS2 : SlT w A2 m T) (hn : n ≤ 1048576) (hm : m ≤ 1048576) :
    Calls Try.prog 30 #[.slice A n n, .slice A2 m m] w fun e w' => e = .returned (.tuple #[.int .i64 (areaO S n T m), .bool (meshB S n T m)]) ∧ Below w.heap.size w w' := AreaOf_any A n n S A2 m m T w hS hS2 hn hm (Nat.le_refl _) (Nat.le_refl _)
theorem TriAt_at (A : Option Addr) (n : Nat) (S : Nat → SP) (A2 : Option Addr) (m : Nat) (T : Nat → Nat → Int) (p : SP) (w : World) (hS : SlSP w A n S) (hS2 : SlT w A2 m T) (hn : n ≤ 1048576) (hm : m ≤ 1048576) :
    Calls Try.prog 23 #[.slice A n n, .slice A2 m m, .agg #[.int .i64 p.x, .int .i64 p.y]] w fun e w' => e = .returned (.tuple #[.int .i64 (tAtO S n T m p), .bool (tAtB S n T m p)]) ∧ Below w.heap.size w w' := TriangleAt_any A n n S A2 m m T p w hS hS2 hn hm (Nat.le_refl _) (Nat.le_refl _)
end Go.Proofs.Ytfflbkmncnaffaa
