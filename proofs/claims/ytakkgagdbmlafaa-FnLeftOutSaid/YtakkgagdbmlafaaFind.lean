/- Contracts of the library's searches by a closure, and of the search for a sounding by its Id. -/
import Derived.Test.YtakkgagdbmlafaaSoundingC
import Derived.Test.YtakkgagdbmlafaaPlain
import Derived.Test.YtakkgagdbmlafaaIntsC
import Derived.Shelf.Abstract
namespace Go.Proofs.Ytakkgagdbmlafaa
open Go.RowKit
theorem idxSD_any (A : Option Addr) (n c : Nat) (f : Nat → SD) (p : SD → Bool) (g : Nat) (lb : Array Value) (w : World) (hS : SlSD w A n f) (hn : n ≤ 1048576)
    (eg : ∀ args w, (callFunc g args).run Try.prog w = .ok (.enter g args) w) (hp : ∀ (x : SD) W, Below w.heap.size w W → Calls Try.prog g (#[.agg #[.int .i64 x.id, .int .i64 x.x, .int .i64 x.y, .int .i64 x.depth, .int .i64 x.doubt]] ++ lb) W fun e w' => e = .returned (.bool (p x)) ∧ Below W.heap.size W w') :
    Calls Try.prog 84 #[.slice A n c, .func (.func g) #[] lb] w fun e w' => e = .returned (.int .i64 (idxP (fun i => p (f i)) n)) ∧ Below w.heap.size w w' := by
  have HP := Lib.hid hp
  clear hp
  go_enter Try.func84, Try.ntmps84
  go_wp2
  go_loopw [8] (fun v8 wr => ∃ k : Nat, k ≤ n ∧ v8 = .int .i64 k ∧ Hid (∀ i, i < k → p (f i) = false) ∧ Below w.heap.size w wr) (fun v8 _ => n - (intOf v8).toNat)
  case atStart => exact ⟨0, Nat.zero_le _, rfl, fun i hi => absurd hi (by omega), by repeat' (first | (with_reducible exact Below.refl _ _) | (with_reducible assumption) | (with_reducible refine Below.alloc ?_ ?_ _) | (with_reducible refine Below.drew ?_) | (with_reducible refine Below.setCell ?_ ?_ _) | (with_reducible refine Below.stepB (by assumption) ?_ ?_) | go_size)⟩
  case round =>
    obtain ⟨k, hk, rfl, hall, hbr⟩ := hrel
    have hzr := hbr.size
    by_cases hlt : k < n
    · obtain ⟨b, off, rfl, hbl, hbl2, c0, c1, c2, c3, c4, hc⟩ := hS.at hbr hlt
      clear hc
      rcases Bool.eq_false_or_eq_true (p (f k)) with hq | hq
      · have HQ := Lib.hid (idxP_some (p := fun i => p (f i)) hq hall n hlt)
        go_wp2_with (go_at_fn g; refine (HP.out (f k) _ (by repeat' (first | (with_reducible exact Below.refl _ _) | (with_reducible assumption) | (with_reducible refine Below.alloc ?_ ?_ _) | (with_reducible refine Below.drew ?_) | (with_reducible refine Below.setCell ?_ ?_ _) | (with_reducible refine Below.stepB (by assumption) ?_ ?_) | go_size))).mono ?_; rintro e w3 ⟨rfl, hbw3⟩; obtain ⟨hzw3, hcw3, hfw3⟩ := bfacts hbw3; (try simp at hzw3 hcw3 hfw3); (try (have : w.heap.size < w3.heap.size := by omega)); (try (have : w.heap.size + 1 < w3.heap.size := by omega)); (try (have : w.heap.size + 1 + 1 < w3.heap.size := by omega)); (try (have : w.heap.size + 1 + 1 + 1 < w3.heap.size := by omega)))
        go_ret
        exact ⟨ret_int HQ.out.symm, by repeat' (first | (with_reducible exact Below.refl _ _) | (with_reducible assumption) | (with_reducible refine Below.alloc ?_ ?_ _) | (with_reducible refine Below.drew ?_) | (with_reducible refine Below.setCell ?_ ?_ _) | (with_reducible refine Below.stepB (by assumption) ?_ ?_) | go_size)⟩
      · have hall2 : Hid (∀ i, i < k + 1 → p (f i) = false) := fun i hi => by
          rcases Nat.lt_or_ge i k with h1 | h1
          · exact hall i h1
          · obtain rfl : i = k := by omega
            exact hq
        go_wp2_with (go_at_fn g; refine (HP.out (f k) _ (by repeat' (first | (with_reducible exact Below.refl _ _) | (with_reducible assumption) | (with_reducible refine Below.alloc ?_ ?_ _) | (with_reducible refine Below.drew ?_) | (with_reducible refine Below.setCell ?_ ?_ _) | (with_reducible refine Below.stepB (by assumption) ?_ ?_) | go_size))).mono ?_; rintro e w3 ⟨rfl, hbw3⟩; obtain ⟨hzw3, hcw3, hfw3⟩ := bfacts hbw3; (try simp at hzw3 hcw3 hfw3); (try (have : w.heap.size < w3.heap.size := by omega)); (try (have : w.heap.size + 1 < w3.heap.size := by omega)); (try (have : w.heap.size + 1 + 1 < w3.heap.size := by omega)); (try (have : w.heap.size + 1 + 1 + 1 < w3.heap.size := by omega)))
        go_roundw
        case rel => exact ⟨k + 1, by omega, by go_num, hall2, by repeat' (first | (with_reducible exact Below.refl _ _) | (with_reducible assumption) | (with_reducible refine Below.alloc ?_ ?_ _) | (with_reducible refine Below.drew ?_) | (with_reducible refine Below.setCell ?_ ?_ _) | (with_reducible refine Below.stepB (by assumption) ?_ ?_) | go_size)⟩
        case measure => simp [intOf]; omega
    · obtain rfl : k = n := by omega
      go_wp2
      go_ret
      exact ⟨ret_int (idxP_none hall).symm, by repeat' (first | (with_reducible exact Below.refl _ _) | (with_reducible assumption) | (with_reducible refine Below.alloc ?_ ?_ _) | (with_reducible refine Below.drew ?_) | (with_reducible refine Below.setCell ?_ ?_ _) | (with_reducible refine Below.stepB (by assumption) ?_ ?_) | go_size)⟩
theorem idxInts_any (A : Option Addr) (n c : Nat) (L : Nat → Int) (p : Int → Bool) (g : Nat) (lb : Array Value) (w : World) (hS : SlI w A n L) (hn : n ≤ 1048576)
    (eg : ∀ args w, (callFunc g args).run Try.prog w = .ok (.enter g args) w) (hp : ∀ (k : Nat) W, k < n → Below w.heap.size w W → Calls Try.prog g (#[.int .i64 (L k)] ++ lb) W fun e w' => e = .returned (.bool (p (L k))) ∧ Below W.heap.size W w') :
    Calls Try.prog 83 #[.slice A n c, .func (.func g) #[] lb] w fun e w' => e = .returned (.int .i64 (idxP (fun i => p (L i)) n)) ∧ Below w.heap.size w w' := by
  have HP := Lib.hid hp
  clear hp
  go_enter Try.func83, Try.ntmps83
  go_wp2
  go_loopw [8] (fun v8 wr => ∃ k : Nat, k ≤ n ∧ v8 = .int .i64 k ∧ Hid (∀ i, i < k → p (L i) = false) ∧ Below w.heap.size w wr) (fun v8 _ => n - (intOf v8).toNat)
  case atStart => exact ⟨0, Nat.zero_le _, rfl, fun i hi => absurd hi (by omega), by repeat' (first | (with_reducible exact Below.refl _ _) | (with_reducible assumption) | (with_reducible refine Below.alloc ?_ ?_ _) | (with_reducible refine Below.drew ?_) | (with_reducible refine Below.setCell ?_ ?_ _) | (with_reducible refine Below.stepB (by assumption) ?_ ?_) | go_size)⟩
  case round =>
    obtain ⟨k, hk, rfl, hall, hbr⟩ := hrel
    have hzr := hbr.size
    by_cases hlt : k < n
    · obtain ⟨b, off, rfl, hbl, hbl2, c0⟩ := hS.at hbr hlt
      rcases Bool.eq_false_or_eq_true (p (L k)) with hq | hq
      · have HQ := Lib.hid (idxP_some (p := fun i => p (L i)) hq hall n hlt)
        have HC := Lib.hid (fun W hb => HP.out k W hlt hb)
        rw [hq] at HC
        go_wp2_with (go_at_fn g; refine (HC.out _ (by repeat' (first | (with_reducible exact Below.refl _ _) | (with_reducible assumption) | (with_reducible refine Below.alloc ?_ ?_ _) | (with_reducible refine Below.drew ?_) | (with_reducible refine Below.setCell ?_ ?_ _) | (with_reducible refine Below.stepB (by assumption) ?_ ?_) | go_size))).mono ?_; rintro e w3 ⟨rfl, hbw3⟩; obtain ⟨hzw3, hcw3, hfw3⟩ := bfacts hbw3; (try simp at hzw3 hcw3 hfw3); (try (have : w.heap.size < w3.heap.size := by omega)); (try (have : w.heap.size + 1 < w3.heap.size := by omega)); (try (have : w.heap.size + 1 + 1 < w3.heap.size := by omega)); (try (have : w.heap.size + 1 + 1 + 1 < w3.heap.size := by omega)))
        go_ret
        exact ⟨ret_int HQ.out.symm, by repeat' (first | (with_reducible exact Below.refl _ _) | (with_reducible assumption) | (with_reducible refine Below.alloc ?_ ?_ _) | (with_reducible refine Below.drew ?_) | (with_reducible refine Below.setCell ?_ ?_ _) | (with_reducible refine Below.stepB (by assumption) ?_ ?_) | go_size)⟩
      · have hall2 : Hid (∀ i, i < k + 1 → p (L i) = false) := fun i hi => by
          rcases Nat.lt_or_ge i k with h1 | h1
          · exact hall i h1
          · obtain rfl : i = k := by omega
            exact hq
        have HC := Lib.hid (fun W hb => HP.out k W hlt hb)
        rw [hq] at HC
        go_wp2_with (go_at_fn g; refine (HC.out _ (by repeat' (first | (with_reducible exact Below.refl _ _) | (with_reducible assumption) | (with_reducible refine Below.alloc ?_ ?_ _) | (with_reducible refine Below.drew ?_) | (with_reducible refine Below.setCell ?_ ?_ _) | (with_reducible refine Below.stepB (by assumption) ?_ ?_) | go_size))).mono ?_; rintro e w3 ⟨rfl, hbw3⟩; obtain ⟨hzw3, hcw3, hfw3⟩ := bfacts hbw3; (try simp at hzw3 hcw3 hfw3); (try (have : w.heap.size < w3.heap.size := by omega)); (try (have : w.heap.size + 1 < w3.heap.size := by omega)); (try (have : w.heap.size + 1 + 1 < w3.heap.size := by omega)); (try (have : w.heap.size + 1 + 1 + 1 < w3.heap.size := by omega)))
        go_roundw
        case rel => exact ⟨k + 1, by omega, by go_num, hall2, by repeat' (first | (with_reducible exact Below.refl _ _) | (with_reducible assumption) | (with_reducible refine Below.alloc ?_ ?_ _) | (with_reducible refine Below.drew ?_) | (with_reducible refine Below.setCell ?_ ?_ _) | (with_reducible refine Below.stepB (by assumption) ?_ ?_) | go_size)⟩
        case measure => simp [intOf]; omega
    · obtain rfl : k = n := by omega
      go_wp2
      go_ret
      exact ⟨ret_int (idxP_none hall).symm, by repeat' (first | (with_reducible exact Below.refl _ _) | (with_reducible assumption) | (with_reducible refine Below.alloc ?_ ?_ _) | (with_reducible refine Below.drew ?_) | (with_reducible refine Below.setCell ?_ ?_ _) | (with_reducible refine Below.stepB (by assumption) ?_ ?_) | go_size)⟩
theorem hasInts_any (A : Option Addr) (n c : Nat) (L : Nat → Int) (p : Int → Bool) (g : Nat) (lb : Array Value) (w : World) (hS : SlI w A n L) (hn : n ≤ 1048576)
    (eg : ∀ args w, (callFunc g args).run Try.prog w = .ok (.enter g args) w) (hp : ∀ (k : Nat) W, k < n → Below w.heap.size w W → Calls Try.prog g (#[.int .i64 (L k)] ++ lb) W fun e w' => e = .returned (.bool (p (L k))) ∧ Below W.heap.size W w') :
    Calls Try.prog 53 #[.slice A n c, .func (.func g) #[] lb] w fun e w' => e = .returned (.bool (hasP (fun i => p (L i)) n)) ∧ Below w.heap.size w w' := by
  have hc := Lib.hid (fun W (hb : Below w.heap.size w W) => idxInts_any A n c L p g lb W (hS.below hb) hn eg (fun k W' hk hb' => hp k W' hk (hb.trans (hb'.mono hb.size))))
  unfold hasP
  clear hS hp eg
  generalize idxP (fun i => p (L i)) n = r at hc ⊢
  go_enter Try.func53, Try.ntmps53
  go_wp2_with fail
  refine (hc.out _ (by repeat' (first | (with_reducible exact Below.refl _ _) | (with_reducible assumption) | (with_reducible refine Below.alloc ?_ ?_ _) | (with_reducible refine Below.drew ?_) | (with_reducible refine Below.setCell ?_ ?_ _) | (with_reducible refine Below.stepB (by assumption) ?_ ?_) | go_size))).mono ?_
  rintro e w1 ⟨rfl, hbw1⟩
  obtain ⟨hzw1, hcw1, hfw1⟩ := bfacts hbw1; (try simp at hzw1 hcw1 hfw1); (try (have : w.heap.size < w1.heap.size := by omega)); (try (have : w.heap.size + 1 < w1.heap.size := by omega)); (try (have : w.heap.size + 1 + 1 < w1.heap.size := by omega)); (try (have : w.heap.size + 1 + 1 + 1 < w1.heap.size := by omega))
  go_wp2
  go_ret
  exact ⟨rfl, by repeat' (first | (with_reducible exact Below.refl _ _) | (with_reducible assumption) | (with_reducible refine Below.alloc ?_ ?_ _) | (with_reducible refine Below.drew ?_) | (with_reducible refine Below.setCell ?_ ?_ _) | (with_reducible refine Below.stepB (by assumption) ?_ ?_) | go_size)⟩
def idxId (f : Nat → SD) (n : Nat) (id : Int) : Int := idxP (fun i => decide ((f i).id = id)) n
theorem soundId_any (x : SD) (id : Int) (B : Nat) (w : World) (hB : B < w.heap.size) (hc : w.cell? ⟨B, 0, none⟩ = some (.int .i64 id)) : Calls Try.prog 85 #[.agg #[.int .i64 x.id, .int .i64 x.x, .int .i64 x.y, .int .i64 x.depth, .int .i64 x.doubt], .pointer (some ⟨B, 0, none⟩)] w
    fun e w' => e = .returned (.bool (decide (x.id = id))) ∧ Below w.heap.size w w' := by
  go_enter Try.func85, Try.ntmps85
  go_wp2
  go_ret
  exact ⟨ret_bool (by rw [Bool.eq_iff_iff]; simp), by repeat' (first | (with_reducible exact Below.refl _ _) | (with_reducible assumption) | (with_reducible refine Below.alloc ?_ ?_ _) | (with_reducible refine Below.drew ?_) | (with_reducible refine Below.setCell ?_ ?_ _) | (with_reducible refine Below.stepB (by assumption) ?_ ?_) | go_size)⟩
theorem enters_soundId : ∀ args w, (callFunc 85 args).run Try.prog w = .ok (.enter 85 args) w := enters_of Try.func85 (by kernel_rfl) rfl
theorem soundingIndex_any (A : Option Addr) (n c : Nat) (f : Nat → SD) (id : Int) (w : World) (hS : SlSD w A n f) (hn : n ≤ 1048576) : Calls Try.prog 55 #[.slice A n c, .int .i64 id] w
    fun e w' => e = .returned (.int .i64 (idxId f n id)) ∧ Below w.heap.size w w' := by
  have hc := Lib.hid (fun W (hb : Below w.heap.size w W) B (hB : B < W.heap.size) (hcell : W.cell? ⟨B, 0, none⟩ = some (.int .i64 id)) =>
    idxSD_any A n c f (fun s => decide (s.id = id)) _ #[.pointer (some ⟨B, 0, none⟩)] W (hS.below hb) hn enters_soundId (fun x W' hb' => soundId_any x id B W' (by have := hb'.size; omega) ((hb'.cell (p := ⟨B, 0, none⟩) hB).trans hcell)))
  clear hS
  unfold idxId
  generalize idxP (fun i => decide ((f i).id = id)) n = r at hc ⊢
  go_enter Try.func55, Try.ntmps55
  go_wp2_with fail
  refine (hc.out _ (by repeat' (first | (with_reducible exact Below.refl _ _) | (with_reducible assumption) | (with_reducible refine Below.alloc ?_ ?_ _) | (with_reducible refine Below.drew ?_) | (with_reducible refine Below.setCell ?_ ?_ _) | (with_reducible refine Below.stepB (by assumption) ?_ ?_) | go_size)) w.heap.size (by simp) (by simp)).mono ?_
  rintro e w1 ⟨rfl, hbw1⟩
  obtain ⟨hzw1, hcw1, hfw1⟩ := bfacts hbw1; (try simp at hzw1 hcw1 hfw1); (try (have : w.heap.size < w1.heap.size := by omega)); (try (have : w.heap.size + 1 < w1.heap.size := by omega)); (try (have : w.heap.size + 1 + 1 < w1.heap.size := by omega)); (try (have : w.heap.size + 1 + 1 + 1 < w1.heap.size := by omega))
  go_wp2
  go_ret
  exact ⟨rfl, by repeat' (first | (with_reducible exact Below.refl _ _) | (with_reducible assumption) | (with_reducible refine Below.alloc ?_ ?_ _) | (with_reducible refine Below.drew ?_) | (with_reducible refine Below.setCell ?_ ?_ _) | (with_reducible refine Below.stepB (by assumption) ?_ ?_) | go_size)⟩
theorem l8Find_any (A : Option Addr) (n c : Nat) (f : Nat → SD) (id : Int) (w : World) (hS : SlSD w A n f) (hn : n ≤ 1048576) : Calls Try.prog 67 #[.slice A n c, .int .i64 id] w
    fun e w' => e = .returned (.int .i64 (idxId f n id)) ∧ w = w' := by
  go_enter Try.func67, Try.ntmps67
  go_wp2
  go_loopw [5] (fun v3 wr => ∃ k : Nat, k ≤ n ∧ v3 = .int .i64 k ∧ Hid (∀ i, i < k → decide ((f i).id = id) = false) ∧ wr = w) (fun v3 _ => n - (intOf v3).toNat)
  case atStart => exact ⟨0, Nat.zero_le _, rfl, fun i hi => absurd hi (by omega), rfl⟩
  case round =>
    obtain ⟨k, hk, rfl, hall, rfl⟩ := hrel
    by_cases hlt : k < n
    · obtain ⟨b, off, rfl, hbl, hbl2, c0, c1, c2, c3, c4, hc⟩ := hS.at (Below.refl _ _) hlt
      clear hS hc
      by_cases hq : (f k).id = id
      · have HQ := Lib.hid (idxP_some (p := fun i => decide ((f i).id = id)) (by simpa using hq) hall n hlt)
        go_wp2
        go_ret
        exact ⟨ret_int HQ.out.symm, rfl⟩
      · have hall2 : Hid (∀ i, i < k + 1 → decide ((f i).id = id) = false) := fun i hi => by
          rcases Nat.lt_or_ge i k with h1 | h1
          · exact hall i h1
          · obtain rfl : i = k := by omega
            simpa using hq
        go_wp2
        go_roundw
        case rel => exact ⟨k + 1, by omega, by go_num, hall2, by trivial⟩
        case measure => simp [intOf]; omega
    · obtain rfl : k = n := by omega
      clear hS
      go_wp2
      go_ret
      exact ⟨ret_int (idxP_none hall).symm, rfl⟩
end Go.Proofs.Ytakkgagdbmlafaa
