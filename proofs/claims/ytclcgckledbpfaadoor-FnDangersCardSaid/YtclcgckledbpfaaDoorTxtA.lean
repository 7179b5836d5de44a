/- Contract: the reference's text of a number is the library's. -/
import Derived.Test.YtclcgckledbpfaaDoorTxtI
namespace Go.Proofs.YtclcgckledbpfaaDoor
open Go.RowKit
theorem ba_app (a b : Array UInt8) : (⟨a⟩ : ByteArray) ++ ⟨b⟩ = ⟨a ++ b⟩ := by
  apply ByteArray.ext
  simp
theorem ten_ex {d : Nat} (h : d < 10) : (⟨#[48, 49, 50, 51, 52, 53, 54, 55, 56, 57]⟩ : ByteArray).extract d (d + 1) = ⟨#[UInt8.ofNat (48 + d)]⟩ := by
  have : d = 0 ∨ d = 1 ∨ d = 2 ∨ d = 3 ∨ d = 4 ∨ d = 5 ∨ d = 6 ∨ d = 7 ∨ d = 8 ∨ d = 9 := by omega
  rcases this with rfl | rfl | rfl | rfl | rfl | rfl | rfl | rfl | rfl | rfl <;> rfl
theorem ret_str {a b : List UInt8} (h : a = b) : Ending.returned (.string ⟨a.toArray⟩) = .returned (.string ⟨b.toArray⟩) := by rw [h]
theorem dec_len (u : Nat) (h : u ≤ 1000000) : (Lib.decDigits u).length ≤ 21 := by
  have := Lib.itoa_length_le (u : Int) (by omega) (by omega)
  rwa [Lib.itoa, if_neg (by omega), Int.toNat_natCast] at this
theorem ten_slice (d : Nat) (h : d < 10) (w : World) : (Instr.slice 9 (.string ⟨#[48, 49, 50, 51, 52, 53, 54, 55, 56, 57]⟩) (some (.int .i64 (d : Int))) (some (.int .i64 ((d : Int) + 1))) none).run Tryd.prog w = .ok (.string ⟨#[UInt8.ofNat (48 + d)]⟩) w := by
  rw [run_slice_string w 9 _ .i64 .i64 _ _ Tryd.underlying9 (by omega) (by omega) (by show _ ≤ 10; omega), show ((d : Int)).toNat = d by omega, show ((d : Int) + 1).toNat = d + 1 by omega, ten_ex h]
set_option maxRecDepth 100000 in
theorem l1Num_nat : ∀ (F u : Nat), u < F → u ≤ 1000000 → ∀ w, Calls Tryd.prog 27 #[.int .i64 (u : Int)] w fun e w' => e = .returned (.string ⟨(Lib.decDigits u).toArray⟩) ∧ Below w.heap.size w w'
  | 0, u, h, _, _ => absurd h (Nat.not_lt_zero _)
  | F + 1, u, h, hu, w => by
    by_cases h10 : u < 10
    · have hD := Lib.hid (show Lib.decDigits u = [UInt8.ofNat (48 + u)] by rw [Lib.decDigits, dif_pos h10])
      have hsl := fun W => ten_slice u h10 W
      obtain ⟨ch, hch⟩ : ∃ ch, UInt8.ofNat (48 + u) = ch := ⟨_, rfl⟩
      have hDo := hD.out
      rw [hch] at hsl hDo
      have HDO := Lib.hid hDo
      clear hD hDo hch
      go_enter Tryd.func27, Tryd.ntmps27
      go_wp2
      go_ret
      exact ⟨ret_str HDO.out.symm, Below.refl _ _⟩
    · have hD := Lib.hid (show Lib.decDigits u = Lib.decDigits (u / 10) ++ [UInt8.ofNat (48 + u % 10)] by rw [Lib.decDigits, dif_neg h10])
      have hI := fun W => l1Num_nat F (u / 10) (by omega) (by omega) W
      have hl := dec_len (u / 10) (by omega)
      have hsl := fun W => ten_slice (u % 10) (by omega) W
      generalize Lib.decDigits (u / 10) = S at hD hI hl
      obtain ⟨ch, hch⟩ : ∃ ch, UInt8.ofNat (48 + u % 10) = ch := ⟨_, rfl⟩
      have hDo := hD.out
      rw [hch] at hsl hDo
      have HDO := Lib.hid hDo
      rw [show ((u / 10 : Nat) : Int) = (u : Int) / 10 by omega] at hI
      rw [show ((u % 10 : Nat) : Int) = (u : Int) % 10 by omega] at hsl
      have HI := Lib.hid hI
      have n1 : ¬ 9223372036854775807 < S.length + 1 := by omega
      clear hD hDo hch hI hl
      go_enter Tryd.func27, Tryd.ntmps27
      go_wp2_with fail
      refine wp_region_later (by kernel_rfl) (by kernel_rfl) (fun hlx => ?_)
      repeat (go_big_quiet_step ((go_at_call 27; exact Later.call (HI.out _))))
      refine wpQuiet_nil ?_
      clear hlx
      intro w1 hbw1
      obtain ⟨hzw1, hcw1, hfw1⟩ := bfacts hbw1; (try simp at hzw1 hcw1 hfw1); (try (have : w.heap.size < w1.heap.size := by omega)); (try (have : w.heap.size + 1 < w1.heap.size := by omega)); (try (have : w.heap.size + 1 + 1 < w1.heap.size := by omega)); (try (have : w.heap.size + 1 + 1 + 1 < w1.heap.size := by omega))
      go_wp2
      go_ret
      refine ⟨?_, by repeat' (first | (with_reducible exact Below.refl _ _) | (with_reducible assumption) | (with_reducible refine Below.alloc ?_ ?_ _) | (with_reducible refine Below.drew ?_) | (with_reducible refine Below.setCell ?_ ?_ _) | (with_reducible refine Below.stepB (by assumption) ?_ ?_) | go_size)⟩
      rw [HDO.out]
      simp [ba_app]
theorem l1Num_any (n : Int) (w : World) (h0 : -1000000 ≤ n) (h1 : n ≤ 1000000) : Calls Tryd.prog 27 #[.int .i64 n] w fun e w' => e = .returned (.string ⟨(Lib.itoa n).toArray⟩) ∧ Below w.heap.size w w' := by
  by_cases hneg : n < 0
  · obtain ⟨u, rfl⟩ : ∃ u : Nat, n = -(u : Int) := ⟨n.natAbs, by omega⟩
    have HI := Lib.hid (fun W => l1Num_nat (u + 1) u (by omega) (by omega) W)
    have hD := Lib.hid (show Lib.itoa (-(u : Int)) = 45 :: Lib.decDigits u by rw [Lib.itoa, if_pos hneg]; congr 2; omega)
    have hl := dec_len u (by omega)
    generalize Lib.decDigits u = S at hD HI hl
    have n1 : ¬ 9223372036854775807 < 1 + S.length := by omega
    have n2 : ¬ 9223372036854775807 < S.length + 1 := by omega
    clear hl
    go_enter Tryd.func27, Tryd.ntmps27
    go_wp2_with fail
    refine (HI.out _).mono ?_
    rintro e w1 ⟨rfl, hbw1⟩
    go_wp2
    go_ret
    refine ⟨?_, hbw1⟩
    rw [hD.out]
    simp [ba_app]
  · obtain ⟨u, rfl⟩ : ∃ u : Nat, n = (u : Int) := ⟨n.toNat, by omega⟩
    rw [Lib.itoa, if_neg hneg, Int.toNat_natCast]
    exact l1Num_nat (u + 1) u (by omega) (by omega) w
end Go.Proofs.YtclcgckledbpfaaDoor
