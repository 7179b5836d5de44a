/- Contracts of the library's search by a predicate, and of the program's judgement on fields. -/
import Derived.Test.YtepibbjcmjabiaaFieldA
import Derived.Shelf.Abstract
namespace Go.Proofs.Ytepibbjcmjabiaa
open Go.RowKit
/-- the first index at which p holds, or -1 -/
def idxP (p : Nat → Bool) : Nat → Int
  | 0 => -1
  | k + 1 => if 0 ≤ idxP p k then idxP p k else if p k = true then k else -1
theorem idxP_none {p : Nat → Bool} : ∀ {k : Nat}, (∀ i, i < k → p i = false) → idxP p k = -1
  | 0, _ => rfl
  | k + 1, h => by simp [idxP, idxP_none (k := k) (fun i hi => h i (by omega)), h k (by omega)]
theorem idxP_some {p : Nat → Bool} {k : Nat} (hk : p k = true) (h : ∀ i, i < k → p i = false) : ∀ n, k < n → idxP p n = k
  | 0, h0 => absurd h0 (by omega)
  | n + 1, h0 => by
    rcases Nat.lt_or_ge k n with h1 | h1
    · simp [idxP, idxP_some hk h n h1]
    · obtain rfl : k = n := by omega
      simp [idxP, idxP_none h, hk]
theorem idxInts_any (A : Option Addr) (n c : Nat) (L : Nat → Int) (p : Int → Bool) (g : Nat) (w : World) (hS : SlI w A n L) (hn : n ≤ 1048576)
    (eg : ∀ args w, (callFunc g args).run Try.prog w = .ok (.enter g args) w) (hp : ∀ (x : Int) W, Calls Try.prog g #[.int .i64 x] W fun e w' => e = .returned (.bool (p x)) ∧ W = w') :
    Calls Try.prog 46 #[.slice A n c, .func (.func g) #[] #[]] w fun e w' => e = .returned (.int .i64 (idxP (fun i => p (L i)) n)) ∧ Below w.heap.size w w' := by
  have HP := Lib.hid hp
  clear hp
  go_enter Try.func46, Try.ntmps46
  go_wp2
  go_loopw [8] (fun v8 wr => ∃ k : Nat, k ≤ n ∧ v8 = .int .i64 k ∧ Hid (∀ i, i < k → p (L i) = false) ∧ Below w.heap.size w wr) (fun v8 _ => n - (intOf v8).toNat)
  case atStart => exact ⟨0, Nat.zero_le _, rfl, fun i hi => absurd hi (by omega), by repeat' (first | (with_reducible exact Below.refl _ _) | (with_reducible assumption) | (with_reducible refine Below.alloc ?_ ?_ _) | (with_reducible refine Below.drew ?_) | (with_reducible refine Below.setCell ?_ ?_ _) | (with_reducible refine Below.stepB (by assumption) ?_ ?_) | go_size)⟩
  case round =>
    obtain ⟨k, hk, rfl, hall, hbr⟩ := hrel
    have hzr := hbr.size
    by_cases hlt : k < n
    · obtain ⟨b, off, rfl, hbl, hbl2, c0⟩ := hS.at hbr hlt
      rcases Bool.eq_false_or_eq_true (p (L k)) with hq | hq
      · have HQ := Lib.hid (idxP_some (p := fun i => p (L i)) hq hall n hlt)
        go_wp2_with (go_at_fn g; refine (HP.out _ _).mono ?_; rintro e w' ⟨rfl, rfl⟩)
        go_ret
        exact ⟨ret_int HQ.out.symm, by repeat' (first | (with_reducible exact Below.refl _ _) | (with_reducible assumption) | (with_reducible refine Below.alloc ?_ ?_ _) | (with_reducible refine Below.drew ?_) | (with_reducible refine Below.setCell ?_ ?_ _) | (with_reducible refine Below.stepB (by assumption) ?_ ?_) | go_size)⟩
      · have hall2 : Hid (∀ i, i < k + 1 → p (L i) = false) := fun i hi => by
          rcases Nat.lt_or_ge i k with h1 | h1
          · exact hall i h1
          · obtain rfl : i = k := by omega
            exact hq
        go_wp2_with (go_at_fn g; refine (HP.out _ _).mono ?_; rintro e w' ⟨rfl, rfl⟩)
        go_roundw
        case rel => exact ⟨k + 1, by omega, by go_num, hall2, by repeat' (first | (with_reducible exact Below.refl _ _) | (with_reducible assumption) | (with_reducible refine Below.alloc ?_ ?_ _) | (with_reducible refine Below.drew ?_) | (with_reducible refine Below.setCell ?_ ?_ _) | (with_reducible refine Below.stepB (by assumption) ?_ ?_) | go_size)⟩
        case measure => simp [intOf]; omega
    · obtain rfl : k = n := by omega
      go_wp2
      go_ret
      exact ⟨ret_int (idxP_none hall).symm, by repeat' (first | (with_reducible exact Below.refl _ _) | (with_reducible assumption) | (with_reducible refine Below.alloc ?_ ?_ _) | (with_reducible refine Below.drew ?_) | (with_reducible refine Below.setCell ?_ ?_ _) | (with_reducible refine Below.stepB (by assumption) ?_ ?_) | go_size)⟩
theorem hasInts_any (A : Option Addr) (n c : Nat) (L : Nat → Int) (p : Int → Bool) (g : Nat) (w : World) (hS : SlI w A n L) (hn : n ≤ 1048576)
    (eg : ∀ args w, (callFunc g args).run Try.prog w = .ok (.enter g args) w) (hp : ∀ (x : Int) W, Calls Try.prog g #[.int .i64 x] W fun e w' => e = .returned (.bool (p x)) ∧ W = w') :
    Calls Try.prog 30 #[.slice A n c, .func (.func g) #[] #[]] w fun e w' => e = .returned (.bool (decide (0 ≤ idxP (fun i => p (L i)) n))) ∧ Below w.heap.size w w' := by
  have hc := Lib.hid (fun W (hb : Below w.heap.size w W) => idxInts_any A n c L p g W (hS.below hb) hn eg hp)
  clear hS hp eg
  generalize idxP (fun i => p (L i)) n = r at hc ⊢
  go_enter Try.func30, Try.ntmps30
  go_wp2_with fail
  refine (hc.out _ (by repeat' (first | (with_reducible exact Below.refl _ _) | (with_reducible assumption) | (with_reducible refine Below.alloc ?_ ?_ _) | (with_reducible refine Below.drew ?_) | (with_reducible refine Below.setCell ?_ ?_ _) | (with_reducible refine Below.stepB (by assumption) ?_ ?_) | go_size))).mono ?_
  rintro e w1 ⟨rfl, hbw1⟩
  obtain ⟨hzw1, hcw1, hfw1⟩ := bfacts hbw1; (try simp at hzw1 hcw1 hfw1); (try (have : w.heap.size < w1.heap.size := by omega)); (try (have : w.heap.size + 1 < w1.heap.size := by omega)); (try (have : w.heap.size + 1 + 1 < w1.heap.size := by omega)); (try (have : w.heap.size + 1 + 1 + 1 < w1.heap.size := by omega))
  go_wp2
  go_ret
  exact ⟨rfl, by repeat' (first | (with_reducible exact Below.refl _ _) | (with_reducible assumption) | (with_reducible refine Below.alloc ?_ ?_ _) | (with_reducible refine Below.drew ?_) | (with_reducible refine Below.setCell ?_ ?_ _) | (with_reducible refine Below.stepB (by assumption) ?_ ?_) | go_size)⟩
theorem okN_has (L : Nat → Int) (n : Nat) : okN_ L n = !decide (0 ≤ idxP (fun i => !inB (L i) (-1000) 20000) n) := by
  induction n with
  | zero => rfl
  | succ k ih =>
    unfold okN_ idxP
    rw [ih]
    rcases Bool.eq_false_or_eq_true (inB (L k) (-1000) 20000) with h | h <;> by_cases h2 : 0 ≤ idxP (fun i => !inB (L i) (-1000) 20000) k <;> simp [h, h2]
theorem enters_isField1 : ∀ args w, (callFunc 31 args).run Try.prog w = .ok (.enter 31 args) w := enters_of Try.func31 (by kernel_rfl) rfl
theorem IsField_any (r cl : Int) (A : Option Addr) (n c : Nat) (L : Nat → Int) (w : World) (hS : SlI w A n L) (hn : n ≤ 1048576) : Calls Try.prog 11 #[.agg #[.int .i64 r, .int .i64 cl, .slice A n c]] w
    fun e w' => e = .returned (.bool (okF r cl n L)) ∧ Below w.heap.size w w' := by
  have hc := Lib.hid (fun W (hb : Below w.heap.size w W) => hasInts_any A n c L (fun x => !inB x (-1000) 20000) _ W (hS.below hb) hn enters_isField1 isField1_any)
  have ho := okN_has L n
  generalize decide (0 ≤ idxP (fun i => !inB (L i) (-1000) 20000) n) = q at hc ho
  clear hS
  have hz : okF r cl n L = (!q && (inB r 1 6 && inB cl 1 6 && decide ((n : Int) = r * cl))) := by rw [okF, ho]
  have HZ := Lib.hid hz
  clear hz ho
  rcases Bool.eq_false_or_eq_true (inB r 1 6) with hr | hr <;> rcases Bool.eq_false_or_eq_true (inB cl 1 6) with hcl | hcl
  · obtain ⟨s1, s2⟩ := side_bd hr hcl
    by_cases hne : (n : Int) = r * cl
    · go_enter Try.func11, Try.ntmps11
      go_wp2_with (go_at_call 29; refine (inside_any _ _ _ _).mono ?_; rintro e w' ⟨rfl, rfl⟩)
      refine (hc.out _ (by repeat' (first | (with_reducible exact Below.refl _ _) | (with_reducible assumption) | (with_reducible refine Below.alloc ?_ ?_ _) | (with_reducible refine Below.drew ?_) | (with_reducible refine Below.setCell ?_ ?_ _) | (with_reducible refine Below.stepB (by assumption) ?_ ?_) | go_size))).mono ?_
      rintro e w1 ⟨rfl, hbw1⟩
      obtain ⟨hzw1, hcw1, hfw1⟩ := bfacts hbw1; (try simp at hzw1 hcw1 hfw1); (try (have : w.heap.size < w1.heap.size := by omega)); (try (have : w.heap.size + 1 < w1.heap.size := by omega)); (try (have : w.heap.size + 1 + 1 < w1.heap.size := by omega)); (try (have : w.heap.size + 1 + 1 + 1 < w1.heap.size := by omega))
      go_wp2
      go_ret
      refine ⟨ret_bool ?_, by repeat' (first | (with_reducible exact Below.refl _ _) | (with_reducible assumption) | (with_reducible refine Below.alloc ?_ ?_ _) | (with_reducible refine Below.drew ?_) | (with_reducible refine Below.setCell ?_ ?_ _) | (with_reducible refine Below.stepB (by assumption) ?_ ?_) | go_size)⟩
      simp [HZ.out, hr, hcl, hne]
    · go_enter Try.func11, Try.ntmps11
      go_wp2_with (go_at_call 29; refine (inside_any _ _ _ _).mono ?_; rintro e w' ⟨rfl, rfl⟩)
      go_ret
      refine ⟨ret_bool ?_, by repeat' (first | (with_reducible exact Below.refl _ _) | (with_reducible assumption) | (with_reducible refine Below.alloc ?_ ?_ _) | (with_reducible refine Below.drew ?_) | (with_reducible refine Below.setCell ?_ ?_ _) | (with_reducible refine Below.stepB (by assumption) ?_ ?_) | go_size)⟩
      simp [HZ.out, hr, hcl, hne]
  all_goals
    go_enter Try.func11, Try.ntmps11
    go_wp2_with (go_at_call 29; refine (inside_any _ _ _ _).mono ?_; rintro e w' ⟨rfl, rfl⟩)
    go_ret
    refine ⟨ret_bool ?_, by repeat' (first | (with_reducible exact Below.refl _ _) | (with_reducible assumption) | (with_reducible refine Below.alloc ?_ ?_ _) | (with_reducible refine Below.drew ?_) | (with_reducible refine Below.setCell ?_ ?_ _) | (with_reducible refine Below.stepB (by assumption) ?_ ?_) | go_size)⟩
    simp [HZ.out, hr, hcl]
end Go.Proofs.Ytepibbjcmjabiaa
