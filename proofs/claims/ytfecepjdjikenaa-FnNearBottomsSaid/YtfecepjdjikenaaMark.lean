/- The law marks a list of samples. -/
import Derived.Test.YtfecepjdjikenaaCopy
import Derived.Test.YtfecepjdjikenaaInts
namespace Go.Proofs.Ytfecepjdjikenaa
open Go.RowKit
theorem markBottomSampleS_any (A : Option Addr) (n c lo : Nat) (g : Nat → Nat → Value) (w : World) (hO : Own w lo 6 A n g) (hn : n ≤ 1048576) (q : Int) (q0 : 0 ≤ q) (q1 : q ≤ 4000000000000) : Calls Try.prog 37 #[.slice A n c, .int .i64 q] w
    fun e w' => e = .returned (.int .i64 (q + n * 6)) ∧ Own w' lo 6 A n (fun i j => .int .i64 (q + i * 6 + j)) ∧ Kept w w' A n := by
  go_enter Try.func37, Try.ntmps37
  go_wp2
  go_loopw [1, 5] (fun v1 v5 wr => ∃ (k : Nat), k ≤ n ∧ v5 = .int .i64 k ∧ v1 = .int .i64 (q + k * 6) ∧ Own wr lo 6 A n (fun i j => if i < k then .int .i64 (q + i * 6 + j) else g i j) ∧ Kept w wr A n) (fun _ v5 _ => n - (intOf v5).toNat)
  case atStart => exact ⟨0, Nat.zero_le _, rfl, by simp, hO.congr (fun i j _ _ => by simp), Kept.refl _ _ _⟩
  case round =>
    obtain ⟨k, hk, rfl, rfl, hR, hK⟩ := hrel
    clear hO
    by_cases hlt : k < n
    · obtain ⟨b, rfl⟩ := hR.form (by omega)
      have c0 := hR.at_ (i := k) (j := 0) hlt (by decide)
      have c1 := hR.at_ (i := k) (j := 1) hlt (by decide)
      have c2 := hR.at_ (i := k) (j := 2) hlt (by decide)
      have c3 := hR.at_ (i := k) (j := 3) hlt (by decide)
      have c4 := hR.at_ (i := k) (j := 4) hlt (by decide)
      have c5 := hR.at_ (i := k) (j := 5) hlt (by decide)
      simp at c0 c1 c2 c3 c4 c5
      obtain ⟨hbl, hfz⟩ := hR.free (by omega)
      have HR := Lib.hid hR
      clear hR
      go_wp2
      go_roundw
      case rel =>
        refine ⟨k + 1, by omega, by go_num, by congr 1; omega, ?_, (((((hK.setCell (by omega) _).setCell (by omega) _).setCell (by omega) _).setCell (by omega) _).setCell (by omega) _).setCell (by omega) _⟩
        refine Own.congr ((((((HR.out.set0 (i := k) (by decide)).set (i := k) (j := 1) (by decide)).set (i := k) (j := 2) (by decide)).set (i := k) (j := 3) (by decide)).set (i := k) (j := 4) (by decide)).set (i := k) (j := 5) (by decide)) (fun i j hi hj => ?_)
        by_cases h1 : i = k
        · subst h1
          have : j = 0 ∨ j = 1 ∨ j = 2 ∨ j = 3 ∨ j = 4 ∨ j = 5 := by omega
          rcases this with rfl | rfl | rfl | rfl | rfl | rfl <;> simp <;> omega
        · simp [h1, show (i < k + 1) = (i < k) from by rw [eq_iff_iff]; omega]
      case measure => simp [intOf]; omega
    · obtain rfl : k = n := by omega
      have HR := Lib.hid hR
      clear hR
      go_wp2
      go_ret
      exact ⟨rfl, HR.out.congr (fun i j hi _ => by simp [hi]), hK⟩
end Go.Proofs.Ytfecepjdjikenaa
