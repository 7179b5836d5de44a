/- Contracts of the functions that blend two samples. -/
import Derived.Test.YtfecepjdjikenaaHold
namespace Go.Proofs.Ytfecepjdjikenaa
open Go.RowKit

def mixV (p q n : Int) : Int := (p * (100 - n) + q * n) / 100
theorem mul_bd {a b : Int} (h1 : 0 ≤ a) (h2 : a ≤ 100) (h3 : 0 ≤ b) (h4 : b ≤ 100) : 0 ≤ a * b ∧ a * b ≤ 10000 :=
  ⟨Int.mul_nonneg h1 h3, by have := Int.mul_le_mul h2 h4 h3 (by decide); omega⟩
theorem specBlend_yes (a b : BS) (n : Int) (w : World) (ha : okS a = true) (hb : okS b = true) (hn : inB n 0 100 = true) : Calls Try.prog 20 #[.agg #[.int .i64 a.id, .int .i64 a.x, .int .i64 a.y, .int .i64 a.mud, .int .i64 a.sand, .int .i64 a.rock], .agg #[.int .i64 b.id, .int .i64 b.x, .int .i64 b.y, .int .i64 b.mud, .int .i64 b.sand, .int .i64 b.rock], .int .i64 n] w
    fun e w' => e = .returned (.tuple #[.int .i64 (mixV a.mud b.mud n), .int .i64 (mixV a.sand b.sand n), .int .i64 (100 - mixV a.mud b.mud n - mixV a.sand b.sand n), .bool true]) ∧ Below w.heap.size w w' := by
  have ⟨⟨_, _, ⟨a1, a2⟩, ⟨a3, a4⟩, _⟩, _⟩ := okS_bd ha
  have ⟨⟨_, _, ⟨b1, b2⟩, ⟨b3, b4⟩, _⟩, _⟩ := okS_bd hb
  have ⟨n1, n2⟩ := inB_iff.1 hn
  have m1 := mul_bd a1 a2 (b := 100 - n) (by omega) (by omega)
  have m2 := mul_bd b1 b2 n1 n2
  have m3 := mul_bd a3 a4 (b := 100 - n) (by omega) (by omega)
  have m4 := mul_bd b3 b4 n1 n2
  go_enter Try.func20, Try.ntmps20
  go_wp2_with (first | (go_at_call 62; refine (l18One_any _ _).mono ?_; rintro e w1 ⟨rfl, hbw1⟩; obtain ⟨hzw1, hcw1, hfw1⟩ := bfacts hbw1; (try simp at hzw1 hcw1 hfw1); (try (have : w.heap.size < w1.heap.size := by omega)); (try (have : w.heap.size + 1 < w1.heap.size := by omega)); (try (have : w.heap.size + 1 + 1 < w1.heap.size := by omega)); (try (have : w.heap.size + 1 + 1 + 1 < w1.heap.size := by omega))) | (go_at_call 67; refine (l18Share_any _ _).mono ?_; rintro e w' ⟨rfl, rfl⟩))
  refine bodyPost_ret (results_tmp4 rfl _ _ _) rfl ?_
  exact ⟨rfl, by repeat' (first | (with_reducible exact Below.refl _ _) | (with_reducible assumption) | (with_reducible refine Below.alloc ?_ ?_ _) | (with_reducible refine Below.drew ?_) | (with_reducible refine Below.setCell ?_ ?_ _) | (with_reducible refine Below.stepB (by assumption) ?_ ?_) | go_size)⟩
theorem specBlend_no (a b : BS) (n : Int) (w : World) (h : ¬ (okS a = true ∧ okS b = true ∧ inB n 0 100 = true)) : Calls Try.prog 20 #[.agg #[.int .i64 a.id, .int .i64 a.x, .int .i64 a.y, .int .i64 a.mud, .int .i64 a.sand, .int .i64 a.rock], .agg #[.int .i64 b.id, .int .i64 b.x, .int .i64 b.y, .int .i64 b.mud, .int .i64 b.sand, .int .i64 b.rock], .int .i64 n] w
    fun e w' => e = .returned (.tuple #[.int .i64 0, .int .i64 0, .int .i64 0, .bool false]) ∧ Below w.heap.size w w' := by
  rcases Bool.eq_false_or_eq_true (okS a) with ha | ha <;> rcases Bool.eq_false_or_eq_true (okS b) with hb | hb <;> rcases Bool.eq_false_or_eq_true (inB n 0 100) with hn | hn
  · exact absurd ⟨ha, hb, hn⟩ h
  all_goals
    clear h
    go_enter Try.func20, Try.ntmps20
    go_wp2_with (first | (go_at_call 62; refine (l18One_any _ _).mono ?_; rintro e w1 ⟨rfl, hbw1⟩; obtain ⟨hzw1, hcw1, hfw1⟩ := bfacts hbw1; (try simp at hzw1 hcw1 hfw1); (try (have : w.heap.size < w1.heap.size := by omega)); (try (have : w.heap.size + 1 < w1.heap.size := by omega)); (try (have : w.heap.size + 1 + 1 < w1.heap.size := by omega)); (try (have : w.heap.size + 1 + 1 + 1 < w1.heap.size := by omega))) | (go_at_call 67; refine (l18Share_any _ _).mono ?_; rintro e w' ⟨rfl, rfl⟩))
    refine bodyPost_ret (results_tmp4 rfl _ _ _) rfl ?_
    exact ⟨rfl, by repeat' (first | (with_reducible exact Below.refl _ _) | (with_reducible assumption) | (with_reducible refine Below.alloc ?_ ?_ _) | (with_reducible refine Below.drew ?_) | (with_reducible refine Below.setCell ?_ ?_ _) | (with_reducible refine Below.stepB (by assumption) ?_ ?_) | go_size)⟩
theorem implBlend_yes (a b : BS) (n : Int) (w : World) (ha : okS a = true) (hb : okS b = true) (hn : inB n 0 100 = true) : Calls Try.prog 21 #[.agg #[.int .i64 a.id, .int .i64 a.x, .int .i64 a.y, .int .i64 a.mud, .int .i64 a.sand, .int .i64 a.rock], .agg #[.int .i64 b.id, .int .i64 b.x, .int .i64 b.y, .int .i64 b.mud, .int .i64 b.sand, .int .i64 b.rock], .int .i64 n] w
    fun e w' => e = .returned (.tuple #[.int .i64 (mixV a.mud b.mud n), .int .i64 (mixV a.sand b.sand n), .int .i64 (100 - mixV a.mud b.mud n - mixV a.sand b.sand n), .bool true]) ∧ Below w.heap.size w w' := by
  have ⟨⟨_, _, ⟨a1, a2⟩, ⟨a3, a4⟩, _⟩, _⟩ := okS_bd ha
  have ⟨⟨_, _, ⟨b1, b2⟩, ⟨b3, b4⟩, _⟩, _⟩ := okS_bd hb
  have ⟨n1, n2⟩ := inB_iff.1 hn
  have m1 := mul_bd a1 a2 (b := 100 - n) (by omega) (by omega)
  have m2 := mul_bd b1 b2 n1 n2
  have m3 := mul_bd a3 a4 (b := 100 - n) (by omega) (by omega)
  have m4 := mul_bd b3 b4 n1 n2
  go_enter Try.func21, Try.ntmps21
  go_wp2_with (first | (go_at_call 17; refine (IsSample_any _ _).mono ?_; rintro e w1 ⟨rfl, hbw1⟩; obtain ⟨hzw1, hcw1, hfw1⟩ := bfacts hbw1; (try simp at hzw1 hcw1 hfw1); (try (have : w.heap.size < w1.heap.size := by omega)); (try (have : w.heap.size + 1 < w1.heap.size := by omega)); (try (have : w.heap.size + 1 + 1 < w1.heap.size := by omega)); (try (have : w.heap.size + 1 + 1 + 1 < w1.heap.size := by omega))) | (go_at_call 63; refine (inside_any _ _ _ _).mono ?_; rintro e w' ⟨rfl, rfl⟩))
  refine bodyPost_ret (results_tmp4 rfl _ _ _) rfl ?_
  exact ⟨rfl, by repeat' (first | (with_reducible exact Below.refl _ _) | (with_reducible assumption) | (with_reducible refine Below.alloc ?_ ?_ _) | (with_reducible refine Below.drew ?_) | (with_reducible refine Below.setCell ?_ ?_ _) | (with_reducible refine Below.stepB (by assumption) ?_ ?_) | go_size)⟩
theorem implBlend_no (a b : BS) (n : Int) (w : World) (h : ¬ (okS a = true ∧ okS b = true ∧ inB n 0 100 = true)) : Calls Try.prog 21 #[.agg #[.int .i64 a.id, .int .i64 a.x, .int .i64 a.y, .int .i64 a.mud, .int .i64 a.sand, .int .i64 a.rock], .agg #[.int .i64 b.id, .int .i64 b.x, .int .i64 b.y, .int .i64 b.mud, .int .i64 b.sand, .int .i64 b.rock], .int .i64 n] w
    fun e w' => e = .returned (.tuple #[.int .i64 0, .int .i64 0, .int .i64 0, .bool false]) ∧ Below w.heap.size w w' := by
  rcases Bool.eq_false_or_eq_true (okS a) with ha | ha <;> rcases Bool.eq_false_or_eq_true (okS b) with hb | hb <;> rcases Bool.eq_false_or_eq_true (inB n 0 100) with hn | hn
  · exact absurd ⟨ha, hb, hn⟩ h
  all_goals
    clear h
    go_enter Try.func21, Try.ntmps21
    go_wp2_with (first | (go_at_call 17; refine (IsSample_any _ _).mono ?_; rintro e w1 ⟨rfl, hbw1⟩; obtain ⟨hzw1, hcw1, hfw1⟩ := bfacts hbw1; (try simp at hzw1 hcw1 hfw1); (try (have : w.heap.size < w1.heap.size := by omega)); (try (have : w.heap.size + 1 < w1.heap.size := by omega)); (try (have : w.heap.size + 1 + 1 < w1.heap.size := by omega)); (try (have : w.heap.size + 1 + 1 + 1 < w1.heap.size := by omega))) | (go_at_call 63; refine (inside_any _ _ _ _).mono ?_; rintro e w' ⟨rfl, rfl⟩))
    refine bodyPost_ret (results_tmp4 rfl _ _ _) rfl ?_
    exact ⟨rfl, by repeat' (first | (with_reducible exact Below.refl _ _) | (with_reducible assumption) | (with_reducible refine Below.alloc ?_ ?_ _) | (with_reducible refine Below.drew ?_) | (with_reducible refine Below.setCell ?_ ?_ _) | (with_reducible refine Below.stepB (by assumption) ?_ ?_) | go_size)⟩
theorem law_BlendSamples (a b : BS) (n : Int) (w : World) : Calls Try.prog 5 #[.agg #[.int .i64 a.id, .int .i64 a.x, .int .i64 a.y, .int .i64 a.mud, .int .i64 a.sand, .int .i64 a.rock], .agg #[.int .i64 b.id, .int .i64 b.x, .int .i64 b.y, .int .i64 b.mud, .int .i64 b.sand, .int .i64 b.rock], .int .i64 n] w fun e w' => e = .returned (.bool true) ∧ Below w.heap.size w w' := by
  by_cases h : okS a = true ∧ okS b = true ∧ inB n 0 100 = true
  · obtain ⟨ha, hb, hn⟩ := h
    go_enter Try.func5, Try.ntmps5
    go_wp2
    refine wp_region_later (by kernel_rfl) (by kernel_rfl) (fun hlx => ?_)
    repeat (go_big_quiet_step (first | (go_at_call 16; exact Later.call (toBottomSample_any _ _)) | (go_at_call 20; exact Later.call (specBlend_yes a b n _ ha hb hn))))
    refine wpQuiet_nil ?_
    clear hlx
    intro w1 hbw1
    obtain ⟨hzw1, hcw1, hfw1⟩ := bfacts hbw1; (try simp at hzw1 hcw1 hfw1); (try (have : w.heap.size < w1.heap.size := by omega)); (try (have : w.heap.size + 1 < w1.heap.size := by omega)); (try (have : w.heap.size + 1 + 1 < w1.heap.size := by omega)); (try (have : w.heap.size + 1 + 1 + 1 < w1.heap.size := by omega))
    go_wp2
    refine wp_region_later (by kernel_rfl) (by kernel_rfl) (fun hlx => ?_)
    repeat (go_big_quiet_step (first | (go_at_call 16; exact Later.call (toBottomSample_any _ _)) | (go_at_call 21; exact Later.call (implBlend_yes a b n _ ha hb hn))))
    refine wpQuiet_nil ?_
    clear hlx
    intro w2 hbw2
    obtain ⟨hzw2, hcw2, hfw2⟩ := bfacts hbw2; (try simp at hzw2 hcw2 hfw2); (try (have : w.heap.size < w2.heap.size := by omega)); (try (have : w.heap.size + 1 < w2.heap.size := by omega)); (try (have : w.heap.size + 1 + 1 < w2.heap.size := by omega)); (try (have : w.heap.size + 1 + 1 + 1 < w2.heap.size := by omega))
    go_wp2
    go_ret
    exact ⟨rfl, by repeat' (first | (with_reducible exact Below.refl _ _) | (with_reducible assumption) | (with_reducible refine Below.alloc ?_ ?_ _) | (with_reducible refine Below.drew ?_) | (with_reducible refine Below.setCell ?_ ?_ _) | (with_reducible refine Below.stepB (by assumption) ?_ ?_) | go_size)⟩
  · have H := Lib.hid h
    clear h
    go_enter Try.func5, Try.ntmps5
    go_wp2
    refine wp_region_later (by kernel_rfl) (by kernel_rfl) (fun hlx => ?_)
    repeat (go_big_quiet_step (first | (go_at_call 16; exact Later.call (toBottomSample_any _ _)) | (go_at_call 20; exact Later.call (specBlend_no a b n _ H.out))))
    refine wpQuiet_nil ?_
    clear hlx
    intro w1 hbw1
    obtain ⟨hzw1, hcw1, hfw1⟩ := bfacts hbw1; (try simp at hzw1 hcw1 hfw1); (try (have : w.heap.size < w1.heap.size := by omega)); (try (have : w.heap.size + 1 < w1.heap.size := by omega)); (try (have : w.heap.size + 1 + 1 < w1.heap.size := by omega)); (try (have : w.heap.size + 1 + 1 + 1 < w1.heap.size := by omega))
    go_wp2
    refine wp_region_later (by kernel_rfl) (by kernel_rfl) (fun hlx => ?_)
    repeat (go_big_quiet_step (first | (go_at_call 16; exact Later.call (toBottomSample_any _ _)) | (go_at_call 21; exact Later.call (implBlend_no a b n _ H.out))))
    refine wpQuiet_nil ?_
    clear hlx
    intro w2 hbw2
    obtain ⟨hzw2, hcw2, hfw2⟩ := bfacts hbw2; (try simp at hzw2 hcw2 hfw2); (try (have : w.heap.size < w2.heap.size := by omega)); (try (have : w.heap.size + 1 < w2.heap.size := by omega)); (try (have : w.heap.size + 1 + 1 < w2.heap.size := by omega)); (try (have : w.heap.size + 1 + 1 + 1 < w2.heap.size := by omega))
    go_wp2
    go_ret
    exact ⟨rfl, by repeat' (first | (with_reducible exact Below.refl _ _) | (with_reducible assumption) | (with_reducible refine Below.alloc ?_ ?_ _) | (with_reducible refine Below.drew ?_) | (with_reducible refine Below.setCell ?_ ?_ _) | (with_reducible refine Below.stepB (by assumption) ?_ ?_) | go_size)⟩
end Go.Proofs.Ytfecepjdjikenaa
