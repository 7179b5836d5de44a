/- Contract: the reference's fewest safe ones; the law on the fewest safe ones, over the contracts. -/
import Derived.Test.YtakkgagdbmlafaaFewS
import Derived.Test.YtakkgagdbmlafaaSelL
namespace Go.Proofs.Ytakkgagdbmlafaa
open Go.RowKit
theorem specFewest_no (A : Option Addr) (n c : Nat) (f : Nat → SD) (r : Int) (w : World) (hS : SlSD w A n f) (hn : n ≤ 1048576) (h : fewOk f n r = false) :
    Calls Try.prog 27 #[.slice A n c, .int .i64 r] w fun e w' => e = .returned (.tuple #[.int .i64 0, .bool false]) ∧ Below w.heap.size w w' := by
  have hg := fun g W (hb : Below w.heap.size w W) => l16Asked_any A n c f (some ⟨g, 0, none⟩) 0 0 (fun _ => 0) r W (hS.below hb) (fun h => absurd h (Nat.lt_irrefl _)) hn (by decide)
  have ha : askB f n (fun _ => 0) 0 r = shoOk f n r := by simp [askB, selB, shoOk, ascN, fndB, allUpto]
  rw [ha] at hg
  unfold fewOk at h
  clear hS ha
  generalize shoOk f n r = q at hg h
  have HG := Lib.hid hg
  clear hg
  cases q <;> by_cases h10 : n ≤ 10 <;> (try (simp [h10] at h; done))
  all_goals
    try clear h
    go_enter Try.func27, Try.ntmps27
    go_wp2_with fail
    refine (HG.out _ _ (by repeat' (first | (with_reducible exact Below.refl _ _) | (with_reducible assumption) | (with_reducible refine Below.alloc ?_ ?_ _) | (with_reducible refine Below.drew ?_) | (with_reducible refine Below.setCell ?_ ?_ _) | (with_reducible refine Below.stepB (by assumption) ?_ ?_) | go_size))).mono ?_
    rintro e w1 ⟨rfl, hbw1⟩
    obtain ⟨hzw1, hcw1, hfw1⟩ := bfacts hbw1; (try simp at hzw1 hcw1 hfw1); (try (have : w.heap.size < w1.heap.size := by omega)); (try (have : w.heap.size + 1 < w1.heap.size := by omega)); (try (have : w.heap.size + 1 + 1 < w1.heap.size := by omega)); (try (have : w.heap.size + 1 + 1 + 1 < w1.heap.size := by omega))
    go_wp2
    go_ret2
    exact ⟨rfl, by repeat' (first | (with_reducible exact Below.refl _ _) | (with_reducible assumption) | (with_reducible refine Below.alloc ?_ ?_ _) | (with_reducible refine Below.drew ?_) | (with_reducible refine Below.setCell ?_ ?_ _) | (with_reducible refine Below.stepB (by assumption) ?_ ?_) | go_size)⟩
set_option maxHeartbeats 1000000 in
theorem specFewest_yes (A : Option Addr) (n c : Nat) (f : Nat → SD) (r : Int) (w : World) (hS : SlSD w A n f) (hn : n ≤ 1048576) (h : fewOk f n r = true) :
    Calls Try.prog 27 #[.slice A n c, .int .i64 r] w fun e w' => e = .returned (.tuple #[.int .i64 (fewU f n r (2 ^ n)), .bool true]) ∧ Below w.heap.size w w' := by
  obtain ⟨hsh, h10⟩ : shoOk f n r = true ∧ n ≤ 10 := by simpa [fewOk] using h
  obtain ⟨hgd, hr⟩ : goodNAll f n = true ∧ inB r 1 1000 = true := by simpa [shoOk] using hsh
  have hg := fun g W (hb : Below w.heap.size w W) => l16Asked_any A n c f (some ⟨g, 0, none⟩) 0 0 (fun _ => 0) r W (hS.below hb) (fun h => absurd h (Nat.lt_irrefl _)) hn (by decide)
  rw [ask_of_sho hsh] at hg
  have HG := Lib.hid hg
  have HSM := Lib.hid (fun (k : Nat) (hk : k ≤ 10) b2 W (hb : Below w.heap.size w W) => show Calls Try.prog 70 #[.slice A n c, .slice (some ⟨b2, 0, none⟩) 0 0, .int .i64 0, .int .i64 k, .int .i64 r] W fun e w' => e = .returned (.bool (decide (fewU f n r (2 ^ n) ≤ k))) ∧ Below W.heap.size W w' from by
    have h := l16Some_any A n c f r (by omega) hgd hr k [] 0 b2 0 W (hS.below hb) (fun h => absurd h (Nat.lt_irrefl _)) rfl (by simpa using hk) (Nat.zero_le _)
    rw [few_iff hgd (by have := rad_bd hr; omega)] at h
    exact h)
  have hfw := fewU_le (f := f) (n := n) (r := r) (2 ^ n)
  generalize fewU f n r (2 ^ n) = fw at HSM hfw ⊢
  clear hg hS h hsh hgd hr
  go_enter Try.func27, Try.ntmps27
  go_wp2_with fail
  refine (HG.out _ _ (by repeat' (first | (with_reducible exact Below.refl _ _) | (with_reducible assumption) | (with_reducible refine Below.alloc ?_ ?_ _) | (with_reducible refine Below.drew ?_) | (with_reducible refine Below.setCell ?_ ?_ _) | (with_reducible refine Below.stepB (by assumption) ?_ ?_) | go_size))).mono ?_
  rintro e w1 ⟨rfl, hbw1⟩
  obtain ⟨hzw1, hcw1, hfw1⟩ := bfacts hbw1; (try simp at hzw1 hcw1 hfw1); (try (have : w.heap.size < w1.heap.size := by omega)); (try (have : w.heap.size + 1 < w1.heap.size := by omega)); (try (have : w.heap.size + 1 + 1 < w1.heap.size := by omega)); (try (have : w.heap.size + 1 + 1 + 1 < w1.heap.size := by omega))
  go_wp2
  go_loopw [6] (fun v6 wr => ∃ k : Nat, k ≤ fw ∧ v6 = .int .i64 k ∧ Below w.heap.size w wr) (fun v6 _ => fw - (intOf v6).toNat)
  case atStart => exact ⟨0, Nat.zero_le _, rfl, by repeat' (first | (with_reducible exact Below.refl _ _) | (with_reducible assumption) | (with_reducible refine Below.alloc ?_ ?_ _) | (with_reducible refine Below.drew ?_) | (with_reducible refine Below.setCell ?_ ?_ _) | (with_reducible refine Below.stepB (by assumption) ?_ ?_) | go_size)⟩
  case round =>
    obtain ⟨k, hk, rfl, hbr⟩ := hrel
    have hzr := hbr.size
    have HK := HSM.out k (by omega)
    by_cases hlt : k < fw
    · rw [decide_eq_false (show ¬ fw ≤ k by omega)] at HK
      have HK := Lib.hid HK
      go_wp2_with fail
      refine (HK.out _ _ (by repeat' (first | (with_reducible exact Below.refl _ _) | (with_reducible assumption) | (with_reducible refine Below.alloc ?_ ?_ _) | (with_reducible refine Below.drew ?_) | (with_reducible refine Below.setCell ?_ ?_ _) | (with_reducible refine Below.stepB (by assumption) ?_ ?_) | go_size))).mono ?_
      rintro e w3 ⟨rfl, hbw3⟩
      obtain ⟨hzw3, hcw3, hfw3⟩ := bfacts hbw3; (try simp at hzw3 hcw3 hfw3); (try (have : w.heap.size < w3.heap.size := by omega)); (try (have : w.heap.size + 1 < w3.heap.size := by omega)); (try (have : w.heap.size + 1 + 1 < w3.heap.size := by omega)); (try (have : w.heap.size + 1 + 1 + 1 < w3.heap.size := by omega))
      go_wp2
      go_roundw
      case rel => exact ⟨k + 1, by omega, by go_num, by repeat' (first | (with_reducible exact Below.refl _ _) | (with_reducible assumption) | (with_reducible refine Below.alloc ?_ ?_ _) | (with_reducible refine Below.drew ?_) | (with_reducible refine Below.setCell ?_ ?_ _) | (with_reducible refine Below.stepB (by assumption) ?_ ?_) | go_size)⟩
      case measure => simp [intOf]; omega
    · rw [decide_eq_true (show fw ≤ k by omega)] at HK
      have HK := Lib.hid HK
      obtain rfl : k = fw := by omega
      go_wp2_with fail
      refine (HK.out _ _ (by repeat' (first | (with_reducible exact Below.refl _ _) | (with_reducible assumption) | (with_reducible refine Below.alloc ?_ ?_ _) | (with_reducible refine Below.drew ?_) | (with_reducible refine Below.setCell ?_ ?_ _) | (with_reducible refine Below.stepB (by assumption) ?_ ?_) | go_size))).mono ?_
      rintro e w3 ⟨rfl, hbw3⟩
      obtain ⟨hzw3, hcw3, hfw3⟩ := bfacts hbw3; (try simp at hzw3 hcw3 hfw3); (try (have : w.heap.size < w3.heap.size := by omega)); (try (have : w.heap.size + 1 < w3.heap.size := by omega)); (try (have : w.heap.size + 1 + 1 < w3.heap.size := by omega)); (try (have : w.heap.size + 1 + 1 + 1 < w3.heap.size := by omega))
      go_wp2
      go_ret2
      exact ⟨rfl, by repeat' (first | (with_reducible exact Below.refl _ _) | (with_reducible assumption) | (with_reducible refine Below.alloc ?_ ?_ _) | (with_reducible refine Below.drew ?_) | (with_reducible refine Below.setCell ?_ ?_ _) | (with_reducible refine Below.stepB (by assumption) ?_ ?_) | go_size)⟩
theorem Fewest_any (A : Option Addr) (n c : Nat) (f : Nat → SD) (r : Int) (w : World) (hS : SlSD w A n f) (hn : n ≤ 1048576) :
    Calls Try.prog 26 #[.slice A n c, .int .i64 r] w fun e w' => e = .returned (.tuple #[.int .i64 (fewV f n r), .bool (fewOk f n r)]) ∧ Below w.heap.size w w' := by
  rcases Bool.eq_false_or_eq_true (fewOk f n r) with h | h
  · rw [fewV, h]
    exact Fewest_yes A n c f r w hS hn h
  · rw [fewV, h]
    exact Fewest_no A n c f r w hS hn h
theorem specFewest_any (A : Option Addr) (n c : Nat) (f : Nat → SD) (r : Int) (w : World) (hS : SlSD w A n f) (hn : n ≤ 1048576) :
    Calls Try.prog 27 #[.slice A n c, .int .i64 r] w fun e w' => e = .returned (.tuple #[.int .i64 (fewV f n r), .bool (fewOk f n r)]) ∧ Below w.heap.size w w' := by
  rcases Bool.eq_false_or_eq_true (fewOk f n r) with h | h
  · rw [fewV, h]
    exact specFewest_yes A n c f r w hS hn h
  · rw [fewV, h]
    exact specFewest_no A n c f r w hS hn h
theorem law_FewestSafe (A : Option Addr) (n c : Nat) (f : Nat → SD) (r : Int) (w : World) (hS : SlSD w A n f) (hm : n ≤ 9223372036854775807) : Calls Try.prog 9 #[.slice A n c, .int .i64 r] w
    fun e w' => e = .returned (.bool true) ∧ Below w.heap.size w w' := by
  have HS := Lib.hid hS
  clear hS
  by_cases hn : n ≤ 1048576
  · obtain ⟨v, hv⟩ : ∃ v, v = fewV f n r := ⟨_, rfl⟩
    obtain ⟨q, hq⟩ : ∃ q, q = fewOk f n r := ⟨_, rfl⟩
    have h1 := Lib.hid (fun A' W (hS : SlSD W A' n f) => specFewest_any A' n n f r W hS hn)
    have h2 := Lib.hid (fun A' W (hS : SlSD W A' n f) => Fewest_any A' n n f r W hS hn)
    rw [← hv, ← hq] at h1 h2
    clear hv hq
    go_enter Try.func9, Try.ntmps9
    go_wp2_with (go_at_call 14; refine (szSoundingS_yes A n c _ hn).mono ?_; rintro e w' ⟨rfl, rfl⟩)
    go_wp2_with fail
    refine (toSoundingS_ex A n c f _ (HS.out.below (by repeat' (first | (with_reducible exact Below.refl _ _) | (with_reducible assumption) | (with_reducible refine Below.alloc ?_ ?_ _) | (with_reducible refine Below.drew ?_) | (with_reducible refine Below.setCell ?_ ?_ _) | (with_reducible refine Below.stepB (by assumption) ?_ ?_) | go_size))) hn).mono ?_
    rintro e w1 ⟨b1, rfl, hO1, hbw1⟩
    obtain ⟨hzw1, hcw1, hfw1⟩ := bfacts hbw1; (try simp at hzw1 hcw1 hfw1); (try (have : w.heap.size < w1.heap.size := by omega)); (try (have : w.heap.size + 1 < w1.heap.size := by omega)); (try (have : w.heap.size + 1 + 1 < w1.heap.size := by omega)); (try (have : w.heap.size + 1 + 1 + 1 < w1.heap.size := by omega))
    go_wp2_with fail
    refine (h1.out _ _ hO1.sl).mono ?_
    rintro e w3 ⟨rfl, hbw3⟩
    obtain ⟨hzw3, hcw3, hfw3⟩ := bfacts hbw3; (try simp at hzw3 hcw3 hfw3); (try (have : w.heap.size < w3.heap.size := by omega)); (try (have : w.heap.size + 1 < w3.heap.size := by omega)); (try (have : w.heap.size + 1 + 1 < w3.heap.size := by omega)); (try (have : w.heap.size + 1 + 1 + 1 < w3.heap.size := by omega))
    go_wp2_with fail
    refine (toSoundingS_ex A n c f _ (HS.out.below (by repeat' (first | (with_reducible exact Below.refl _ _) | (with_reducible assumption) | (with_reducible refine Below.alloc ?_ ?_ _) | (with_reducible refine Below.drew ?_) | (with_reducible refine Below.setCell ?_ ?_ _) | (with_reducible refine Below.stepB (by assumption) ?_ ?_) | go_size))) hn).mono ?_
    rintro e w4 ⟨b4, rfl, hO4, hbw4⟩
    obtain ⟨hzw4, hcw4, hfw4⟩ := bfacts hbw4; (try simp at hzw4 hcw4 hfw4); (try (have : w.heap.size < w4.heap.size := by omega)); (try (have : w.heap.size + 1 < w4.heap.size := by omega)); (try (have : w.heap.size + 1 + 1 < w4.heap.size := by omega)); (try (have : w.heap.size + 1 + 1 + 1 < w4.heap.size := by omega))
    go_wp2_with fail
    refine (h2.out _ _ hO4.sl).mono ?_
    rintro e w6 ⟨rfl, hbw6⟩
    obtain ⟨hzw6, hcw6, hfw6⟩ := bfacts hbw6; (try simp at hzw6 hcw6 hfw6); (try (have : w.heap.size < w6.heap.size := by omega)); (try (have : w.heap.size + 1 < w6.heap.size := by omega)); (try (have : w.heap.size + 1 + 1 < w6.heap.size := by omega)); (try (have : w.heap.size + 1 + 1 + 1 < w6.heap.size := by omega))
    cases q
    all_goals
      go_wp2_with fail
      refine (toSoundingS_ex A n c f _ (HS.out.below (by repeat' (first | (with_reducible exact Below.refl _ _) | (with_reducible assumption) | (with_reducible refine Below.alloc ?_ ?_ _) | (with_reducible refine Below.drew ?_) | (with_reducible refine Below.setCell ?_ ?_ _) | (with_reducible refine Below.stepB (by assumption) ?_ ?_) | go_size))) hn).mono ?_
      rintro e w7 ⟨b7, rfl, hO7, hbw7⟩
      obtain ⟨hzw7, hcw7, hfw7⟩ := bfacts hbw7; (try simp at hzw7 hcw7 hfw7); (try (have : w.heap.size < w7.heap.size := by omega)); (try (have : w.heap.size + 1 < w7.heap.size := by omega)); (try (have : w.heap.size + 1 + 1 < w7.heap.size := by omega)); (try (have : w.heap.size + 1 + 1 + 1 < w7.heap.size := by omega))
      go_wp2_with fail
      refine (eqSoundingS_same _ _ n n n f _ (hO4.below (by repeat' (first | (with_reducible exact Below.refl _ _) | (with_reducible assumption) | (with_reducible refine Below.alloc ?_ ?_ _) | (with_reducible refine Below.drew ?_) | (with_reducible refine Below.setCell ?_ ?_ _) | (with_reducible refine Below.stepB (by assumption) ?_ ?_) | go_size))).sl hO7.sl hn).mono ?_
      rintro e w8 ⟨rfl, hbw8⟩
      obtain ⟨hzw8, hcw8, hfw8⟩ := bfacts hbw8; (try simp at hzw8 hcw8 hfw8); (try (have : w.heap.size < w8.heap.size := by omega)); (try (have : w.heap.size + 1 < w8.heap.size := by omega)); (try (have : w.heap.size + 1 + 1 < w8.heap.size := by omega)); (try (have : w.heap.size + 1 + 1 + 1 < w8.heap.size := by omega))
      go_wp2
      go_ret
      exact ⟨rfl, by repeat' (first | (with_reducible exact Below.refl _ _) | (with_reducible assumption) | (with_reducible refine Below.alloc ?_ ?_ _) | (with_reducible refine Below.drew ?_) | (with_reducible refine Below.setCell ?_ ?_ _) | (with_reducible refine Below.stepB (by assumption) ?_ ?_) | go_size)⟩
  · go_enter Try.func9, Try.ntmps9
    go_wp2_with (go_at_call 14; refine (szSoundingS_no A n c _ (by omega) hm).mono ?_; rintro e w' ⟨rfl, rfl⟩)
    go_ret
    exact ⟨rfl, by repeat' (first | (with_reducible exact Below.refl _ _) | (with_reducible assumption) | (with_reducible refine Below.alloc ?_ ?_ _) | (with_reducible refine Below.drew ?_) | (with_reducible refine Below.setCell ?_ ?_ _) | (with_reducible refine Below.stepB (by assumption) ?_ ?_) | go_size)⟩
end Go.Proofs.Ytakkgagdbmlafaa
