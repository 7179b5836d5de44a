/- Contracts of the functions that copy, compare and judge fields. -/
import Derived.Test.YtepibbjcmjabiaaBase
import Derived.Test.YtepibbjcmjabiaaIntsC
import Derived.Test.YtepibbjcmjabiaaOuts
namespace Go.Proofs.Ytepibbjcmjabiaa
open Go.RowKit
def okN_ (L : Nat → Int) : Nat → Bool
  | 0 => true
  | k + 1 => okN_ L k && inB (L k) (-1000) 20000
theorem okN_no {L : Nat → Int} {k : Nat} (h : inB (L k) (-1000) 20000 = false) : ∀ n, k < n → okN_ L n = false
  | 0, h0 => absurd h0 (by omega)
  | n + 1, h0 => by
    rcases Nat.lt_or_ge k n with h1 | h1
    · simp [okN_, okN_no h n h1]
    · obtain rfl : k = n := by omega
      simp [okN_, h]
theorem okN_lt {L : Nat → Int} : ∀ {n : Nat}, okN_ L n = true → ∀ k, k < n → inB (L k) (-1000) 20000 = true
  | 0, _, k, h => absurd h (by omega)
  | n + 1, hg, k, h => by
    simp only [okN_, Bool.and_eq_true] at hg
    rcases Nat.lt_or_ge k n with h1 | h1
    · exact okN_lt hg.1 k h1
    · obtain rfl : k = n := by omega
      exact hg.2
def okF (r cl : Int) (n : Nat) (L : Nat → Int) : Bool := okN_ L n && (inB r 1 6 && inB cl 1 6 && decide ((n : Int) = r * cl))
theorem side_bd {r cl : Int} (h : inB r 1 6 = true) (k : inB cl 1 6 = true) : 1 ≤ r * cl ∧ r * cl ≤ 36 := by
  obtain ⟨h1, h2⟩ := inB_iff.1 h
  obtain ⟨k1, k2⟩ := inB_iff.1 k
  have a := Int.mul_le_mul h2 k2 (by omega) (by decide)
  have b := Int.mul_le_mul h1 k1 (by decide) (by omega)
  omega
theorem szField_any (r cl : Int) (A : Option Addr) (n c : Nat) (s : Int) (w : World) (hn : n ≤ 9223372036854775807) (hs0 : 0 ≤ s) (hs : s ≤ 1048576) : Calls Try.prog 8 #[.agg #[.int .i64 r, .int .i64 cl, .slice A n c], .int .i64 s] w
    fun e w' => e = .returned (.int .i64 (if n ≤ s then s - n else -1)) ∧ Below w.heap.size w w' := by
  by_cases h : (n : Int) ≤ s
  · have h1 : (if (n : Int) ≤ s then s - n else -1) = s - n := if_pos h
    have h2 := fun W => szIntS_any A n c s W hn hs0 hs
    rw [h1] at h2 ⊢
    have H2 := Lib.hid h2
    clear h1 h2
    go_enter Try.func8, Try.ntmps8
    go_wp2_with (go_at_call 26; refine (H2.out _).mono ?_; rintro e w' ⟨rfl, rfl⟩)
    go_ret
    exact ⟨rfl, by repeat' (first | (with_reducible exact Below.refl _ _) | (with_reducible assumption) | (with_reducible refine Below.alloc ?_ ?_ _) | (with_reducible refine Below.drew ?_) | (with_reducible refine Below.setCell ?_ ?_ _) | (with_reducible refine Below.stepB (by assumption) ?_ ?_) | go_size)⟩
  · have h1 : (if (n : Int) ≤ s then s - n else -1) = -1 := if_neg h
    have h2 := fun W => szIntS_any A n c s W hn hs0 hs
    rw [h1] at h2 ⊢
    have H2 := Lib.hid h2
    clear h1 h2
    go_enter Try.func8, Try.ntmps8
    go_wp2_with (go_at_call 26; refine (H2.out _).mono ?_; rintro e w' ⟨rfl, rfl⟩)
    go_ret
    exact ⟨rfl, by repeat' (first | (with_reducible exact Below.refl _ _) | (with_reducible assumption) | (with_reducible refine Below.alloc ?_ ?_ _) | (with_reducible refine Below.drew ?_) | (with_reducible refine Below.setCell ?_ ?_ _) | (with_reducible refine Below.stepB (by assumption) ?_ ?_) | go_size)⟩
theorem blk_new {g : Nat} (w : World) (t : TypeId) (cs : Array Value) (hg : g = w.heap.size) : Blk (w.alloc (.cells cs t)) g t cs := by
  subst hg
  exact Blk.new w t cs
theorem Own.setFar {w : World} {lo k n : Nat} {A : Option Addr} {g : Nat → Nat → Value} {p : Addr} {u : Value} (h : Own w lo k A n g) (hp : p.block < lo) : Own (w.setCell p u) lo k A n g := fun hn => by
  obtain ⟨b, t, cs, hA, hl, hB, hs, hc⟩ := h hn
  exact ⟨b, t, cs, hA, hl, hB.far (by omega) u, hs, hc⟩
theorem toField_ex (r cl : Int) (A : Option Addr) (n c : Nat) (L : Nat → Int) (w : World) (hS : SlI w A n L) (hn : n ≤ 1048576) : Calls Try.prog 10 #[.agg #[.int .i64 r, .int .i64 cl, .slice A n c]] w
    fun e w' => ∃ b, e = .returned (.agg #[.int .i64 r, .int .i64 cl, .slice (some ⟨b, 0, none⟩) n n]) ∧ OwnI w' w.heap.size (some ⟨b, 0, none⟩) n L ∧ Below w.heap.size w w' := by
  have HS := Lib.hid hS
  clear hS
  go_enter Try.func10, Try.ntmps10
  go_wp2_with fail
  refine (toIntS_ex A n c L _ (HS.out.below (by repeat' (first | (with_reducible exact Below.refl _ _) | (with_reducible assumption) | (with_reducible refine Below.alloc ?_ ?_ _) | (with_reducible refine Below.drew ?_) | (with_reducible refine Below.setCell ?_ ?_ _) | (with_reducible refine Below.stepB (by assumption) ?_ ?_) | go_size))) hn).mono ?_
  rintro e w1 ⟨b1, rfl, hO1, hbw1⟩
  obtain ⟨hzw1, hcw1, hfw1⟩ := bfacts hbw1; (try simp at hzw1 hcw1 hfw1); (try (have : w.heap.size < w1.heap.size := by omega)); (try (have : w.heap.size + 1 < w1.heap.size := by omega)); (try (have : w.heap.size + 1 + 1 < w1.heap.size := by omega)); (try (have : w.heap.size + 1 + 1 + 1 < w1.heap.size := by omega))
  have hO2 := Lib.hid hO1
  have hfr := hO1.range
  clear hO1
  have hB1 : Blk w1 (w.heap.size + 1) 27 #[.int .i64 0, .int .i64 0, .slice none 0 0] :=
    ((blk_new (w.alloc (.cells #[.int .i64 r, .int .i64 cl, .slice A n c] 24)) 27 #[.int .i64 0, .int .i64 0, .slice none 0 0] (by simp)).alloc _).below hbw1 (by simp)
  have d0 := hB1.cell 0
  have d1 := hB1.cell 1
  have d2 := hB1.cell 2
  simp only [List.getElem?_toArray] at d0 d1 d2
  have HB1 := Lib.hid hB1
  clear hB1
  go_wp2
  refine bodyPost_ret (by simp [results, Try.results10, go_sem, d0, d1, d2]; try rfl) rfl ?_
  refine ⟨b1, rfl, ?_, by repeat' (first | (with_reducible exact Below.refl _ _) | (with_reducible assumption) | (with_reducible refine Below.alloc ?_ ?_ _) | (with_reducible refine Below.drew ?_) | (with_reducible refine Below.setCell ?_ ?_ _) | (with_reducible refine Below.stepB (by assumption) ?_ ?_) | go_size)⟩
  exact ((((hO2.out.setFar (by simp)).setFar (by simp)).setFar (by simp)).setFar (by simp)).more (by simp; omega)
theorem eqField_same (r cl : Int) (A A' : Option Addr) (n c c' : Nat) (L : Nat → Int) (w : World) (hS : SlI w A n L) (hS' : SlI w A' n L) (hn : n ≤ 1048576) : Calls Try.prog 12 #[.agg #[.int .i64 r, .int .i64 cl, .slice A n c], .agg #[.int .i64 r, .int .i64 cl, .slice A' n c']] w
    fun e w' => e = .returned (.bool true) ∧ Below w.heap.size w w' := by
  have HS := Lib.hid hS
  have HS' := Lib.hid hS'
  clear hS hS'
  go_enter Try.func12, Try.ntmps12
  go_wp2_with fail
  refine (eqIntS_same A A' n c c' L _ (HS.out.below (by repeat' (first | (with_reducible exact Below.refl _ _) | (with_reducible assumption) | (with_reducible refine Below.alloc ?_ ?_ _) | (with_reducible refine Below.drew ?_) | (with_reducible refine Below.setCell ?_ ?_ _) | (with_reducible refine Below.stepB (by assumption) ?_ ?_) | go_size))) (HS'.out.below (by repeat' (first | (with_reducible exact Below.refl _ _) | (with_reducible assumption) | (with_reducible refine Below.alloc ?_ ?_ _) | (with_reducible refine Below.drew ?_) | (with_reducible refine Below.setCell ?_ ?_ _) | (with_reducible refine Below.stepB (by assumption) ?_ ?_) | go_size))) hn).mono ?_
  rintro e w1 ⟨rfl, hbw1⟩
  obtain ⟨hzw1, hcw1, hfw1⟩ := bfacts hbw1; (try simp at hzw1 hcw1 hfw1); (try (have : w.heap.size < w1.heap.size := by omega)); (try (have : w.heap.size + 1 < w1.heap.size := by omega)); (try (have : w.heap.size + 1 + 1 < w1.heap.size := by omega)); (try (have : w.heap.size + 1 + 1 + 1 < w1.heap.size := by omega))
  go_wp2
  go_ret
  exact ⟨rfl, by repeat' (first | (with_reducible exact Below.refl _ _) | (with_reducible assumption) | (with_reducible refine Below.alloc ?_ ?_ _) | (with_reducible refine Below.drew ?_) | (with_reducible refine Below.setCell ?_ ?_ _) | (with_reducible refine Below.stepB (by assumption) ?_ ?_) | go_size)⟩
theorem l19Good_any (r cl : Int) (A : Option Addr) (n c : Nat) (L : Nat → Int) (w : World) (hS : SlI w A n L) (hn : n ≤ 1048576) : Calls Try.prog 27 #[.agg #[.int .i64 r, .int .i64 cl, .slice A n c]] w
    fun e w' => e = .returned (.bool (okF r cl n L)) ∧ Below w.heap.size w w' := by
  go_enter Try.func27, Try.ntmps27
  go_wp2
  go_loopw [3] (fun v3 wr => ∃ k : Nat, k ≤ n ∧ v3 = .int .i64 k ∧ okN_ L k = true ∧ Blk wr w.heap.size 27 #[.int .i64 r, .int .i64 cl, .slice A n c] ∧ Below w.heap.size w wr) (fun v3 _ => n - (intOf v3).toNat)
  case atStart => exact ⟨0, Nat.zero_le _, rfl, rfl, Blk.new _ _ _, by repeat' (first | (with_reducible exact Below.refl _ _) | (with_reducible assumption) | (with_reducible refine Below.alloc ?_ ?_ _) | (with_reducible refine Below.drew ?_) | (with_reducible refine Below.setCell ?_ ?_ _) | (with_reducible refine Below.stepB (by assumption) ?_ ?_) | go_size)⟩
  case round =>
    obtain ⟨k, hk, rfl, hall, hB, hbr⟩ := hrel
    have hzr := hbr.size
    have HALL := Lib.hid hall
    clear hall
    have hg0 := hB.lt
    have g0 := hB.cell 0
    have g1 := hB.cell 1
    have g2 := hB.cell 2
    simp at g0 g1 g2
    by_cases hlt : k < n
    · obtain ⟨b, off, rfl, hbl, hbl2, c0⟩ := hS.at hbr hlt
      rcases Bool.eq_false_or_eq_true (inB (L k) (-1000) 20000) with hq | hq
      · go_wp2_with (go_at_call 44; refine (l2Depth_any _ _).mono ?_; rintro e w' ⟨rfl, rfl⟩)
        go_roundw
        case rel => exact ⟨k + 1, by omega, by go_num, by simp [okN_, HALL.out, hq], hB, by repeat' (first | (with_reducible exact Below.refl _ _) | (with_reducible assumption) | (with_reducible refine Below.alloc ?_ ?_ _) | (with_reducible refine Below.drew ?_) | (with_reducible refine Below.setCell ?_ ?_ _) | (with_reducible refine Below.stepB (by assumption) ?_ ?_) | go_size)⟩
        case measure => simp [intOf]; omega
      · have HQ := Lib.hid (okN_no hq n hlt)
        go_wp2_with (go_at_call 44; refine (l2Depth_any _ _).mono ?_; rintro e w' ⟨rfl, rfl⟩)
        go_ret
        exact ⟨by simp [okF, HQ.out], by repeat' (first | (with_reducible exact Below.refl _ _) | (with_reducible assumption) | (with_reducible refine Below.alloc ?_ ?_ _) | (with_reducible refine Below.drew ?_) | (with_reducible refine Below.setCell ?_ ?_ _) | (with_reducible refine Below.stepB (by assumption) ?_ ?_) | go_size)⟩
    · obtain rfl : k = n := by omega
      rcases Bool.eq_false_or_eq_true (inB r 1 6) with hr | hr <;> rcases Bool.eq_false_or_eq_true (inB cl 1 6) with hc | hc
      · obtain ⟨s1, s2⟩ := side_bd hr hc
        go_wp2_with (go_at_call 45; refine (l1In_any _ _ _ _).mono ?_; rintro e w' ⟨rfl, rfl⟩)
        all_goals go_ret
        all_goals refine ⟨ret_bool ?_, by repeat' (first | (with_reducible exact Below.refl _ _) | (with_reducible assumption) | (with_reducible refine Below.alloc ?_ ?_ _) | (with_reducible refine Below.drew ?_) | (with_reducible refine Below.setCell ?_ ?_ _) | (with_reducible refine Below.stepB (by assumption) ?_ ?_) | go_size)⟩
        all_goals (rw [okF, HALL.out, hr, hc]; rfl)
      all_goals
        go_wp2_with (go_at_call 45; refine (l1In_any _ _ _ _).mono ?_; rintro e w' ⟨rfl, rfl⟩)
        go_ret
        refine ⟨ret_bool ?_, by repeat' (first | (with_reducible exact Below.refl _ _) | (with_reducible assumption) | (with_reducible refine Below.alloc ?_ ?_ _) | (with_reducible refine Below.drew ?_) | (with_reducible refine Below.setCell ?_ ?_ _) | (with_reducible refine Below.stepB (by assumption) ?_ ?_) | go_size)⟩
        simp [okF, hr, hc]
theorem specIsField_any (r cl : Int) (A : Option Addr) (n c : Nat) (L : Nat → Int) (w : World) (hS : SlI w A n L) (hn : n ≤ 1048576) : Calls Try.prog 9 #[.agg #[.int .i64 r, .int .i64 cl, .slice A n c]] w
    fun e w' => e = .returned (.bool (okF r cl n L)) ∧ Below w.heap.size w w' := by
  have HS := Lib.hid hS
  clear hS
  go_enter Try.func9, Try.ntmps9
  go_wp2_with fail
  refine (l19Good_any r cl A n c L _ (HS.out.below (by repeat' (first | (with_reducible exact Below.refl _ _) | (with_reducible assumption) | (with_reducible refine Below.alloc ?_ ?_ _) | (with_reducible refine Below.drew ?_) | (with_reducible refine Below.setCell ?_ ?_ _) | (with_reducible refine Below.stepB (by assumption) ?_ ?_) | go_size))) hn).mono ?_
  rintro e w1 ⟨rfl, hbw1⟩
  obtain ⟨hzw1, hcw1, hfw1⟩ := bfacts hbw1; (try simp at hzw1 hcw1 hfw1); (try (have : w.heap.size < w1.heap.size := by omega)); (try (have : w.heap.size + 1 < w1.heap.size := by omega)); (try (have : w.heap.size + 1 + 1 < w1.heap.size := by omega)); (try (have : w.heap.size + 1 + 1 + 1 < w1.heap.size := by omega))
  go_wp2
  go_ret
  exact ⟨rfl, by repeat' (first | (with_reducible exact Below.refl _ _) | (with_reducible assumption) | (with_reducible refine Below.alloc ?_ ?_ _) | (with_reducible refine Below.drew ?_) | (with_reducible refine Below.setCell ?_ ?_ _) | (with_reducible refine Below.stepB (by assumption) ?_ ?_) | go_size)⟩
/-- the program's predicate: the depth is none -/
theorem isField1_any (x : Int) (w : World) : Calls Try.prog 31 #[.int .i64 x] w fun e w' => e = .returned (.bool (!inB x (-1000) 20000)) ∧ w = w' := by
  go_enter Try.func31, Try.ntmps31
  go_wp2_with (go_at_call 32; refine (isDepth_any _ _).mono ?_; rintro e w' ⟨rfl, rfl⟩)
  go_ret
  exact ⟨rfl, rfl⟩
end Go.Proofs.Ytepibbjcmjabiaa
