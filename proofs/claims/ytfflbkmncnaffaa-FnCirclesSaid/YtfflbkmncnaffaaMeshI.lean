/- Contracts: a mesh with depths is valid. -/
import Derived.Test.YtfflbkmncnaffaaMeshO
import Derived.Shelf.Abstract
namespace Go.Proofs.Ytfflbkmncnaffaa
open Go.RowKit
theorem idxInts_any (A : Option Addr) (n c : Nat) (L : Nat → Int) (p : Int → Bool) (g : Nat) (lb : Array Value) (w : World) (hS : SlI w A n L) (hn : n ≤ 1048576)
    (eg : ∀ args w, (callFunc g args).run Try.prog w = .ok (.enter g args) w) (hp : ∀ (k : Nat) W, k < n → Below w.heap.size w W → Calls Try.prog g (#[.int .i64 (L k)] ++ lb) W fun e w' => e = .returned (.bool (p (L k))) ∧ Below W.heap.size W w') :
    Calls Try.prog 134 #[.slice A n c, .func (.func g) #[] lb] w fun e w' => e = .returned (.int .i64 (idxP (fun i => p (L i)) n)) ∧ Below w.heap.size w w' := by
  have HP := Lib.hid hp
  clear hp
  go_enter Try.func134, Try.ntmps134
  go_wp2
  go_loopw [8] (fun v8 wr => ∃ k : Nat, k ≤ n ∧ v8 = .int .i64 k ∧ Hid (∀ i, i < k → p (L i) = false) ∧ Below w.heap.size w wr) (fun v8 _ => n - (intOf v8).toNat)
  case atStart => exact ⟨0, Nat.zero_le _, rfl, fun i hi => absurd hi (by omega), by repeat' (first | (with_reducible exact Below.refl _ _) | (with_reducible assumption) | (with_reducible refine Below.alloc ?_ ?_ _) | (with_reducible refine Below.drew ?_) | (with_reducible refine Below.setCell ?_ ?_ _) | (with_reducible refine Below.stepB (by assumption) ?_ ?_) | go_size)⟩
  case round =>
    obtain ⟨k, hk, rfl, hall, hbr⟩ := hrel
    have hzr := hbr.size
    by_cases hlt : k < n
    · obtain ⟨b, off, rfl, hbl, hbl2, c0⟩ := hS.at hbr hlt
      rcases Bool.eq_false_or_eq_true (p (L k)) with hq | hq
      · have HQ := Lib.hid (idxP_some (p := fun i => p (L i)) hq hall n hlt)
        have HC := Lib.hid (fun W hb => HP.out k W hlt hb)
        rw [hq] at HC
        go_wp2_with (go_at_fn g; refine (HC.out _ (by repeat' (first | (with_reducible exact Below.refl _ _) | (with_reducible assumption) | (with_reducible refine Below.alloc ?_ ?_ _) | (with_reducible refine Below.drew ?_) | (with_reducible refine Below.setCell ?_ ?_ _) | (with_reducible refine Below.stepB (by assumption) ?_ ?_) | go_size))).mono ?_; rintro e w3 ⟨rfl, hbw3⟩; obtain ⟨hzw3, hcw3, hfw3⟩ := bfacts hbw3; (try simp at hzw3 hcw3 hfw3); (try (have : w.heap.size < w3.heap.size := by omega)); (try (have : w.heap.size + 1 < w3.heap.size := by omega)); (try (have : w.heap.size + 1 + 1 < w3.heap.size := by omega)); (try (have : w.heap.size + 1 + 1 + 1 < w3.heap.size := by omega)))
        go_ret
        exact ⟨ret_int HQ.out.symm, by repeat' (first | (with_reducible exact Below.refl _ _) | (with_reducible assumption) | (with_reducible refine Below.alloc ?_ ?_ _) | (with_reducible refine Below.drew ?_) | (with_reducible refine Below.setCell ?_ ?_ _) | (with_reducible refine Below.stepB (by assumption) ?_ ?_) | go_size)⟩
      · have hall2 : Hid (∀ i, i < k + 1 → p (L i) = false) := fun i hi => by
          rcases Nat.lt_or_ge i k with h1 | h1
          · exact hall i h1
          · obtain rfl : i = k := by omega
            exact hq
        have HC := Lib.hid (fun W hb => HP.out k W hlt hb)
        rw [hq] at HC
        go_wp2_with (go_at_fn g; refine (HC.out _ (by repeat' (first | (with_reducible exact Below.refl _ _) | (with_reducible assumption) | (with_reducible refine Below.alloc ?_ ?_ _) | (with_reducible refine Below.drew ?_) | (with_reducible refine Below.setCell ?_ ?_ _) | (with_reducible refine Below.stepB (by assumption) ?_ ?_) | go_size))).mono ?_; rintro e w3 ⟨rfl, hbw3⟩; obtain ⟨hzw3, hcw3, hfw3⟩ := bfacts hbw3; (try simp at hzw3 hcw3 hfw3); (try (have : w.heap.size < w3.heap.size := by omega)); (try (have : w.heap.size + 1 < w3.heap.size := by omega)); (try (have : w.heap.size + 1 + 1 < w3.heap.size := by omega)); (try (have : w.heap.size + 1 + 1 + 1 < w3.heap.size := by omega)))
        go_roundw
        case rel => exact ⟨k + 1, by omega, by go_num, hall2, by repeat' (first | (with_reducible exact Below.refl _ _) | (with_reducible assumption) | (with_reducible refine Below.alloc ?_ ?_ _) | (with_reducible refine Below.drew ?_) | (with_reducible refine Below.setCell ?_ ?_ _) | (with_reducible refine Below.stepB (by assumption) ?_ ?_) | go_size)⟩
        case measure => simp [intOf]; omega
    · obtain rfl : k = n := by omega
      go_wp2
      go_ret
      exact ⟨ret_int (idxP_none hall).symm, by repeat' (first | (with_reducible exact Below.refl _ _) | (with_reducible assumption) | (with_reducible refine Below.alloc ?_ ?_ _) | (with_reducible refine Below.drew ?_) | (with_reducible refine Below.setCell ?_ ?_ _) | (with_reducible refine Below.stepB (by assumption) ?_ ?_) | go_size)⟩
theorem hasInts_any (A : Option Addr) (n c : Nat) (L : Nat → Int) (p : Int → Bool) (g : Nat) (lb : Array Value) (w : World) (hS : SlI w A n L) (hn : n ≤ 1048576)
    (eg : ∀ args w, (callFunc g args).run Try.prog w = .ok (.enter g args) w) (hp : ∀ (k : Nat) W, k < n → Below w.heap.size w W → Calls Try.prog g (#[.int .i64 (L k)] ++ lb) W fun e w' => e = .returned (.bool (p (L k))) ∧ Below W.heap.size W w') :
    Calls Try.prog 113 #[.slice A n c, .func (.func g) #[] lb] w fun e w' => e = .returned (.bool (hasP (fun i => p (L i)) n)) ∧ Below w.heap.size w w' := by
  have hc := Lib.hid (fun W (hb : Below w.heap.size w W) => idxInts_any A n c L p g lb W (hS.below hb) hn eg (fun k W' hk hb' => hp k W' hk (hb.trans (hb'.mono hb.size))))
  unfold hasP
  clear hS hp eg
  generalize idxP (fun i => p (L i)) n = r at hc ⊢
  go_enter Try.func113, Try.ntmps113
  go_wp2_with fail
  refine (hc.out _ (by repeat' (first | (with_reducible exact Below.refl _ _) | (with_reducible assumption) | (with_reducible refine Below.alloc ?_ ?_ _) | (with_reducible refine Below.drew ?_) | (with_reducible refine Below.setCell ?_ ?_ _) | (with_reducible refine Below.stepB (by assumption) ?_ ?_) | go_size))).mono ?_
  rintro e w1 ⟨rfl, hbw1⟩
  obtain ⟨hzw1, hcw1, hfw1⟩ := bfacts hbw1; (try simp at hzw1 hcw1 hfw1); (try (have : w.heap.size < w1.heap.size := by omega)); (try (have : w.heap.size + 1 < w1.heap.size := by omega)); (try (have : w.heap.size + 1 + 1 < w1.heap.size := by omega)); (try (have : w.heap.size + 1 + 1 + 1 < w1.heap.size := by omega))
  go_wp2
  go_ret
  exact ⟨rfl, by repeat' (first | (with_reducible exact Below.refl _ _) | (with_reducible assumption) | (with_reducible refine Below.alloc ?_ ?_ _) | (with_reducible refine Below.drew ?_) | (with_reducible refine Below.setCell ?_ ?_ _) | (with_reducible refine Below.stepB (by assumption) ?_ ?_) | go_size)⟩
theorem depFn_any (x : Int) (w : World) : Calls Try.prog 114 #[.int .i64 x] w fun e w' => e = .returned (.bool (!inB x (-1000) 20000)) ∧ Below w.heap.size w w' := by
  go_enter Try.func114, Try.ntmps114
  go_wp2_with (go_at_call 115; refine (isDepth_any _ _).mono ?_; rintro e w' ⟨rfl, rfl⟩)
  go_ret
  exact ⟨rfl, by repeat' (first | (with_reducible exact Below.refl _ _) | (with_reducible assumption) | (with_reducible refine Below.alloc ?_ ?_ _) | (with_reducible refine Below.drew ?_) | (with_reducible refine Below.setCell ?_ ?_ _) | (with_reducible refine Below.stepB (by assumption) ?_ ?_) | go_size)⟩
theorem enters_depFn : ∀ args w, (callFunc 114 args).run Try.prog w = .ok (.enter 114 args) w := enters_of Try.func114 (by kernel_rfl) rfl
def depB (L : Nat → Int) (d : Nat) : Bool := !hasP (fun i => !inB (L i) (-1000) 20000) d
def depthsB (S : Nat → SP) (n : Nat) (T : Nat → Nat → Int) (m : Nat) (L : Nat → Int) (d : Nat) : Bool := meshB S n T m && (((d : Int) == (n : Int)) && depB L d)
theorem depB_lt {L : Nat → Int} {d : Nat} (h : depB L d = true) : ∀ i, i < d → -1000 ≤ L i ∧ L i ≤ 20000 := fun i hi => by
  simp only [depB, Bool.not_eq_true'] at h
  have := hasP_false.1 h i hi
  simp only [Bool.not_eq_false'] at this
  exact inB_iff.1 this
theorem depthsB_parts {S : Nat → SP} {n : Nat} {T : Nat → Nat → Int} {m : Nat} {L : Nat → Int} {d : Nat} (h : depthsB S n T m L d = true) : meshB S n T m = true ∧ d = n ∧ depB L d = true := by
  simp only [depthsB, Bool.and_eq_true, beq_iff_eq] at h
  exact ⟨h.1, by omega, h.2.2⟩
theorem areDepths_any (A : Option Addr) (n c : Nat) (S : Nat → SP) (A2 : Option Addr) (m c2 : Nat) (T : Nat → Nat → Int) (A3 : Option Addr) (d c3 : Nat) (L : Nat → Int) (w : World) (hS : SlSP w A n S) (hS2 : SlT w A2 m T) (hS3 : SlI w A3 d L) (hn : n ≤ 1048576) (hm : m ≤ 1048576) (hd : d ≤ 1048576) (hc : n ≤ c) (hc2 : m ≤ c2) :
    Calls Try.prog 73 #[.slice A n c, .slice A2 m c2, .slice A3 d c3] w fun e w' => e = .returned (.bool (depthsB S n T m L d)) ∧ Below w.heap.size w w' := by
  have hg := Lib.hid (fun W (hb : Below w.heap.size w W) => IsMesh_any A n c S A2 m c2 T W (hS.below hb) (hS2.below hb) hn hm hc hc2)
  have hh := fun W (hb : Below w.heap.size w W) => hasInts_any A3 d c3 L (fun x => !inB x (-1000) 20000) _ #[] W (hS3.below hb) hd enters_depFn (fun k W' _ _ => depFn_any (L k) W')
  have hv : depthsB S n T m L d = (meshB S n T m && (((d : Int) == (n : Int)) && !hasP (fun i => !inB (L i) (-1000) 20000) d)) := rfl
  generalize depthsB S n T m L d = res at hv ⊢
  generalize meshB S n T m = q at hg hv
  generalize hasP (fun i => !inB (L i) (-1000) 20000) d = q3 at hh hv
  have HH := Lib.hid hh
  clear hS hS2 hS3 hh
  cases q
  · have HV : Hid (false = res) := by show _ = _; rw [hv]; rfl
    clear hv
    go_enter Try.func73, Try.ntmps73
    go_wp2_with fail
    refine (hg.out _ (by repeat' (first | (with_reducible exact Below.refl _ _) | (with_reducible assumption) | (with_reducible refine Below.alloc ?_ ?_ _) | (with_reducible refine Below.drew ?_) | (with_reducible refine Below.setCell ?_ ?_ _) | (with_reducible refine Below.stepB (by assumption) ?_ ?_) | go_size))).mono ?_
    rintro e w1 ⟨rfl, hbw1⟩
    obtain ⟨hzw1, hcw1, hfw1⟩ := bfacts hbw1; (try simp at hzw1 hcw1 hfw1); (try (have : w.heap.size < w1.heap.size := by omega)); (try (have : w.heap.size + 1 < w1.heap.size := by omega)); (try (have : w.heap.size + 1 + 1 < w1.heap.size := by omega)); (try (have : w.heap.size + 1 + 1 + 1 < w1.heap.size := by omega))
    go_wp2
    go_ret
    exact ⟨ret_bool HV.out, by repeat' (first | (with_reducible exact Below.refl _ _) | (with_reducible assumption) | (with_reducible refine Below.alloc ?_ ?_ _) | (with_reducible refine Below.drew ?_) | (with_reducible refine Below.setCell ?_ ?_ _) | (with_reducible refine Below.stepB (by assumption) ?_ ?_) | go_size)⟩
  by_cases hdn : d = n
  · have HV : Hid ((!q3) = res) := by show _ = _; rw [hv, hdn]; simp
    subst hdn
    clear hv
    go_enter Try.func73, Try.ntmps73
    go_wp2_with fail
    refine (hg.out _ (by repeat' (first | (with_reducible exact Below.refl _ _) | (with_reducible assumption) | (with_reducible refine Below.alloc ?_ ?_ _) | (with_reducible refine Below.drew ?_) | (with_reducible refine Below.setCell ?_ ?_ _) | (with_reducible refine Below.stepB (by assumption) ?_ ?_) | go_size))).mono ?_
    rintro e w1 ⟨rfl, hbw1⟩
    obtain ⟨hzw1, hcw1, hfw1⟩ := bfacts hbw1; (try simp at hzw1 hcw1 hfw1); (try (have : w.heap.size < w1.heap.size := by omega)); (try (have : w.heap.size + 1 < w1.heap.size := by omega)); (try (have : w.heap.size + 1 + 1 < w1.heap.size := by omega)); (try (have : w.heap.size + 1 + 1 + 1 < w1.heap.size := by omega))
    go_wp2_with fail
    refine (HH.out _ (by repeat' (first | (with_reducible exact Below.refl _ _) | (with_reducible assumption) | (with_reducible refine Below.alloc ?_ ?_ _) | (with_reducible refine Below.drew ?_) | (with_reducible refine Below.setCell ?_ ?_ _) | (with_reducible refine Below.stepB (by assumption) ?_ ?_) | go_size))).mono ?_
    rintro e w2 ⟨rfl, hbw2⟩
    obtain ⟨hzw2, hcw2, hfw2⟩ := bfacts hbw2; (try simp at hzw2 hcw2 hfw2); (try (have : w.heap.size < w2.heap.size := by omega)); (try (have : w.heap.size + 1 < w2.heap.size := by omega)); (try (have : w.heap.size + 1 + 1 < w2.heap.size := by omega)); (try (have : w.heap.size + 1 + 1 + 1 < w2.heap.size := by omega))
    go_wp2
    go_ret
    exact ⟨ret_bool HV.out, by repeat' (first | (with_reducible exact Below.refl _ _) | (with_reducible assumption) | (with_reducible refine Below.alloc ?_ ?_ _) | (with_reducible refine Below.drew ?_) | (with_reducible refine Below.setCell ?_ ?_ _) | (with_reducible refine Below.stepB (by assumption) ?_ ?_) | go_size)⟩
  · have hne : ((d : Int) == (n : Int)) = false := by simp; omega
    have HV : Hid (false = res) := by show _ = _; rw [hv, hne]; rfl
    clear hv hdn
    go_enter Try.func73, Try.ntmps73
    go_wp2_with fail
    refine (hg.out _ (by repeat' (first | (with_reducible exact Below.refl _ _) | (with_reducible assumption) | (with_reducible refine Below.alloc ?_ ?_ _) | (with_reducible refine Below.drew ?_) | (with_reducible refine Below.setCell ?_ ?_ _) | (with_reducible refine Below.stepB (by assumption) ?_ ?_) | go_size))).mono ?_
    rintro e w1 ⟨rfl, hbw1⟩
    obtain ⟨hzw1, hcw1, hfw1⟩ := bfacts hbw1; (try simp at hzw1 hcw1 hfw1); (try (have : w.heap.size < w1.heap.size := by omega)); (try (have : w.heap.size + 1 < w1.heap.size := by omega)); (try (have : w.heap.size + 1 + 1 < w1.heap.size := by omega)); (try (have : w.heap.size + 1 + 1 + 1 < w1.heap.size := by omega))
    go_wp2
    go_ret
    exact ⟨ret_bool HV.out, by repeat' (first | (with_reducible exact Below.refl _ _) | (with_reducible assumption) | (with_reducible refine Below.alloc ?_ ?_ _) | (with_reducible refine Below.drew ?_) | (with_reducible refine Below.setCell ?_ ?_ _) | (with_reducible refine Below.stepB (by assumption) ?_ ?_) | go_size)⟩
theorem l15Depths_any (A : Option Addr) (n c : Nat) (S : Nat → SP) (A2 : Option Addr) (m c2 : Nat) (T : Nat → Nat → Int) (A3 : Option Addr) (d c3 : Nat) (L : Nat → Int) (w : World) (hS : SlSP w A n S) (hS2 : SlT w A2 m T) (hS3 : SlI w A3 d L) (hn : n ≤ 1048576) (hm : m ≤ 1048576) (hd : d ≤ 1048576) :
    Calls Try.prog 75 #[.slice A n c, .slice A2 m c2, .slice A3 d c3] w fun e w' => e = .returned (.bool (depthsB S n T m L d)) ∧ Below w.heap.size w w' := by
  have hg := Lib.hid (fun W (hb : Below w.heap.size w W) => l15Good_any A n c S A2 m c2 T W (hS.below hb) (hS2.below hb) hn hm)
  have hv : depthsB S n T m L d = (meshB S n T m && (((d : Int) == (n : Int)) && !hasP (fun i => !inB (L i) (-1000) 20000) d)) := rfl
  generalize depthsB S n T m L d = res at hv ⊢
  have HS3 := Lib.hid hS3
  have HV := Lib.hid hv
  generalize meshB S n T m = q at hg HV
  clear hS hS2 hS3 hv
  go_enter Try.func75, Try.ntmps75
  go_wp2
  go_loopw [7] (fun vc wr => ∃ k : Nat, k ≤ d ∧ vc = .int .i64 k ∧ Hid (∀ i, i < k → (!inB (L i) (-1000) 20000) = false) ∧ Below w.heap.size w wr) (fun vc _ => d - (intOf vc).toNat)
  case atStart => exact ⟨0, Nat.zero_le _, rfl, fun i hi => absurd hi (by omega), by repeat' (first | (with_reducible exact Below.refl _ _) | (with_reducible assumption) | (with_reducible refine Below.alloc ?_ ?_ _) | (with_reducible refine Below.drew ?_) | (with_reducible refine Below.setCell ?_ ?_ _) | (with_reducible refine Below.stepB (by assumption) ?_ ?_) | go_size)⟩
  case round =>
    obtain ⟨k, hk, rfl, hall, hbr⟩ := hrel
    have hzr := hbr.size
    by_cases hlt : k < d
    · obtain ⟨b, off, rfl, hbl, hbl2, c0⟩ := HS3.out.at hbr hlt
      have HC := Lib.hid (fun W => l2Depth_any (L k) W)
      generalize hq : inB (L k) (-1000) 20000 = q2 at HC
      have HQ := Lib.hid hq
      clear hq
      cases q2
      · have HN : Hid (false = res) := by
          show _ = _
          rw [HV.out, hasP_true.2 ⟨k, hlt, by rw [HQ.out]; rfl⟩]
          simp
        go_wp2_with (go_at_call 117; refine (HC.out _).mono ?_; rintro e w' ⟨rfl, rfl⟩)
        go_ret
        exact ⟨ret_bool HN.out, hbr⟩
      · have hall2 : Hid (∀ i, i < k + 1 → (!inB (L i) (-1000) 20000) = false) := fun i hi => by
          rcases Nat.lt_or_ge i k with h1 | h1
          · exact hall i h1
          · obtain rfl : i = k := by omega
            rw [HQ.out]; rfl
        go_wp2_with (go_at_call 117; refine (HC.out _).mono ?_; rintro e w' ⟨rfl, rfl⟩)
        go_roundw
        case rel => exact ⟨k + 1, by omega, by go_num, hall2, hbr⟩
        case measure => simp [intOf]; omega
    · obtain rfl : k = d := by omega
      have HN : Hid ((q && ((k : Int) == (n : Int))) = res) := by show _ = _; rw [HV.out, hasP_false.2 hall]; simp
      clear hall
      cases q
      · go_wp2_with fail
        refine (hg.out _ (by repeat' (first | (with_reducible exact Below.refl _ _) | (with_reducible assumption) | (with_reducible refine Below.alloc ?_ ?_ _) | (with_reducible refine Below.drew ?_) | (with_reducible refine Below.setCell ?_ ?_ _) | (with_reducible refine Below.stepB (by assumption) ?_ ?_) | go_size))).mono ?_
        rintro e w3 ⟨rfl, hbw3⟩
        obtain ⟨hzw3, hcw3, hfw3⟩ := bfacts hbw3; (try simp at hzw3 hcw3 hfw3); (try (have : w.heap.size < w3.heap.size := by omega)); (try (have : w.heap.size + 1 < w3.heap.size := by omega)); (try (have : w.heap.size + 1 + 1 < w3.heap.size := by omega)); (try (have : w.heap.size + 1 + 1 + 1 < w3.heap.size := by omega))
        go_wp2
        go_ret
        exact ⟨ret_bool HN.out, by repeat' (first | (with_reducible exact Below.refl _ _) | (with_reducible assumption) | (with_reducible refine Below.alloc ?_ ?_ _) | (with_reducible refine Below.drew ?_) | (with_reducible refine Below.setCell ?_ ?_ _) | (with_reducible refine Below.stepB (by assumption) ?_ ?_) | go_size)⟩
      · go_wp2_with fail
        refine (hg.out _ (by repeat' (first | (with_reducible exact Below.refl _ _) | (with_reducible assumption) | (with_reducible refine Below.alloc ?_ ?_ _) | (with_reducible refine Below.drew ?_) | (with_reducible refine Below.setCell ?_ ?_ _) | (with_reducible refine Below.stepB (by assumption) ?_ ?_) | go_size))).mono ?_
        rintro e w3 ⟨rfl, hbw3⟩
        obtain ⟨hzw3, hcw3, hfw3⟩ := bfacts hbw3; (try simp at hzw3 hcw3 hfw3); (try (have : w.heap.size < w3.heap.size := by omega)); (try (have : w.heap.size + 1 < w3.heap.size := by omega)); (try (have : w.heap.size + 1 + 1 < w3.heap.size := by omega)); (try (have : w.heap.size + 1 + 1 + 1 < w3.heap.size := by omega))
        go_wp2
        go_ret
        exact ⟨ret_bool HN.out, by repeat' (first | (with_reducible exact Below.refl _ _) | (with_reducible assumption) | (with_reducible refine Below.alloc ?_ ?_ _) | (with_reducible refine Below.drew ?_) | (with_reducible refine Below.setCell ?_ ?_ _) | (with_reducible refine Below.stepB (by assumption) ?_ ?_) | go_size)⟩
end Go.Proofs.Ytfflbkmncnaffaa
