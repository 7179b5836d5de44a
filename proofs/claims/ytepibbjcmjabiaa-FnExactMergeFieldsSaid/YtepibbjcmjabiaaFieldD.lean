/- Contracts of the functions that judge cells beside each other and list them. -/
import Derived.Test.YtepibbjcmjabiaaFieldB
namespace Go.Proofs.Ytepibbjcmjabiaa
open Go.RowKit
/-- the size of a number -/
def mag (x : Int) : Int := max x (-x)
theorem mag_bd {x b : Int} (h1 : -b ≤ x) (h2 : x ≤ b) : 0 ≤ mag x ∧ mag x ≤ b := by unfold mag; omega
theorem absOf_any (x : Int) (w : World) (h1 : -1000000 ≤ x) (h2 : x ≤ 1000000) : Calls Try.prog 48 #[.int .i64 x] w fun e w' => e = .returned (.int .i64 (mag x)) ∧ w = w' := by
  go_enter Try.func48, Try.ntmps48
  go_wp2
  all_goals go_ret
  all_goals refine ⟨ret_int ?_, rfl⟩
  all_goals unfold mag
  all_goals omega
theorem l1MostD_any (a b : Int) (w : World) : Calls Try.prog 49 #[.int .i64 a, .int .i64 b] w fun e w' => e = .returned (.int .i64 (max a b)) ∧ w = w' := by
  go_enter Try.func49, Try.ntmps49
  go_wp2
  all_goals go_ret
  all_goals exact ⟨ret_int (by omega), rfl⟩
theorem l10Size_any (x : Int) (w : World) (h1 : -1000000 ≤ x) (h2 : x ≤ 1000000) : Calls Try.prog 47 #[.int .i64 x] w fun e w' => e = .returned (.int .i64 (mag x)) ∧ w = w' := by
  go_enter Try.func47, Try.ntmps47
  go_wp2_with (go_at_call 49; refine (l1MostD_any _ _ _).mono ?_; rintro e w' ⟨rfl, rfl⟩)
  go_ret
  exact ⟨rfl, rfl⟩
def rowsD (cl : Int) (i k : Nat) : Int := mag ((i : Int) / cl - (k : Int) / cl)
def colsD (cl : Int) (i k : Nat) : Int := mag ((i : Int) % cl - (k : Int) % cl)
def bsd (cl : Int) (i k : Nat) : Bool := decide (rowsD cl i k + colsD cl i k = 1)
theorem dm_bd {cl : Int} {i : Nat} (h1 : 1 ≤ cl) (h2 : cl ≤ 6) (hi : i ≤ 36) : (0 ≤ (i : Int) / cl ∧ (i : Int) / cl ≤ 36) ∧ (0 ≤ (i : Int) % cl ∧ (i : Int) % cl ≤ 36) := by
  have a := Int.ediv_nonneg (a := (i : Int)) (b := cl) (by omega) (by omega)
  have b := Int.ediv_le_self (a := (i : Int)) cl (by omega)
  have c := Int.emod_nonneg (i : Int) (b := cl) (by omega)
  have d := Int.emod_lt_of_pos (i : Int) (b := cl) (by omega)
  omega
theorem l19Beside_any (r cl : Int) (A : Option Addr) (n c i k : Nat) (w : World) (h1 : 1 ≤ cl) (h2 : cl ≤ 6) (hi : i ≤ 36) (hk : k ≤ 36) : Calls Try.prog 37 #[.agg #[.int .i64 r, .int .i64 cl, .slice A n c], .int .i64 i, .int .i64 k] w
    fun e w' => e = .returned (.bool (bsd cl i k)) ∧ Below w.heap.size w w' := by
  have hcz : ¬ cl = 0 := by omega
  have hcz2 : 0 < cl := by omega
  obtain ⟨⟨a1, a2⟩, a3, a4⟩ := dm_bd h1 h2 hi
  obtain ⟨⟨b1, b2⟩, b3, b4⟩ := dm_bd h1 h2 hk
  have m1 := mag_bd (x := (i : Int) / cl - (k : Int) / cl) (b := 36) (by omega) (by omega)
  have m2 := mag_bd (x := (i : Int) % cl - (k : Int) % cl) (b := 36) (by omega) (by omega)
  go_enter Try.func37, Try.ntmps37
  go_wp2
  refine wp_region_later (by kernel_rfl) (by kernel_rfl) (fun hlx => ?_)
  repeat (go_big_quiet_step ((go_at_call 47; exact Later.same (l10Size_any _ _ (by omega) (by omega)))))
  refine wpQuiet_nil ?_
  clear hlx
  intro w1 hbw1
  obtain ⟨hzw1, hcw1, hfw1⟩ := bfacts hbw1; (try simp at hzw1 hcw1 hfw1); (try (have : w.heap.size < w1.heap.size := by omega)); (try (have : w.heap.size + 1 < w1.heap.size := by omega)); (try (have : w.heap.size + 1 + 1 < w1.heap.size := by omega)); (try (have : w.heap.size + 1 + 1 + 1 < w1.heap.size := by omega))
  go_wp2
  go_ret
  exact ⟨rfl, by repeat' (first | (with_reducible exact Below.refl _ _) | (with_reducible assumption) | (with_reducible refine Below.alloc ?_ ?_ _) | (with_reducible refine Below.drew ?_) | (with_reducible refine Below.setCell ?_ ?_ _) | (with_reducible refine Below.stepB (by assumption) ?_ ?_) | go_size)⟩
def pick {α : Type} (p : Nat → Bool) (h : Nat → α) : Nat → List α
  | 0 => []
  | k + 1 => pick p h k ++ (if p k = true then [h k] else [])
theorem pick_hit {α : Type} {p : Nat → Bool} {h : Nat → α} {k : Nat} (hp : p k = true) : pick p h (k + 1) = pick p h k ++ [h k] := by simp [pick, hp]
theorem pick_miss {α : Type} {p : Nat → Bool} {h : Nat → α} {k : Nat} (hp : p k = false) : pick p h (k + 1) = pick p h k := by simp [pick, hp]
theorem pick_len {α : Type} {p : Nat → Bool} {h : Nat → α} : ∀ k, (pick p h k).length ≤ k
  | 0 => by simp [pick]
  | k + 1 => by
    have := pick_len (p := p) (h := h) k
    unfold pick
    split <;> simp <;> omega
/-- the cells beside a cell -/
def nearL (cl : Int) (i n : Nat) : List Int := pick (fun k => bsd cl i k) (fun k => (k : Int)) n
theorem near_any (r cl : Int) (A : Option Addr) (n c i : Nat) (w : World) (h1 : 1 ≤ cl) (h2 : cl ≤ 6) (hi : i ≤ 36) (hn : n ≤ 36) : Calls Try.prog 39 #[.agg #[.int .i64 r, .int .i64 cl, .slice A n c], .int .i64 i, .bool false] w
    fun e w' => ∃ A' m c', e = .returned (.slice A' m c') ∧ m = (nearL cl i n).length ∧ OwnI w' w.heap.size A' m (fun j => (nearL cl i n).getD j 0) ∧ Below w.heap.size w w' := by
  have hcz : ¬ cl = 0 := by omega
  have hcz2 : 0 < cl := by omega
  obtain ⟨⟨a1, a2⟩, a3, a4⟩ := dm_bd h1 h2 hi
  obtain ⟨i0, hi0, hz0, hz1, hz2⟩ := info_parts int_infoC
  go_enter Try.func39, Try.ntmps39
  go_wp2
  go_loopw [7, 15] (fun v7 vc wr => ∃ k : Nat, k ≤ n ∧ vc = .int .i64 k ∧ wr.ownsRow (w.heap.size + 1) 3 1 v7 (nearL cl i k).length ((nearL cl i k).map (Value.int .i64)) ∧ Blk wr w.heap.size 27 #[.int .i64 r, .int .i64 cl, .slice A n c] ∧ Below w.heap.size w wr ∧ w.heap.size + 1 ≤ wr.heap.size) (fun _ vc _ => n - (intOf vc).toNat)
  case atStart => exact ⟨0, Nat.zero_le _, rfl, by simpa [nearL, pick] using ownsRow_empty (w.alloc (.cells #[.int .i64 r, .int .i64 cl, .slice A n c] 27)) 3 1, (blk_new w _ _ rfl).alloc _, by repeat' (first | (with_reducible exact Below.refl _ _) | (with_reducible assumption) | (with_reducible refine Below.alloc ?_ ?_ _) | (with_reducible refine Below.drew ?_) | (with_reducible refine Below.setCell ?_ ?_ _) | (with_reducible refine Below.stepB (by assumption) ?_ ?_) | go_size), by go_size⟩
  case round =>
    obtain ⟨k, hk, rfl, hO, hB, hbr, hzr1⟩ := hrel
    have hzr := hbr.size
    obtain ⟨A7, c7, rfl⟩ := ownsRow_form hO
    have hg0 := hB.lt
    have g1 : wr.cell? ⟨w.heap.size, 1, none⟩ = some (.int .i64 cl) := hB.cell 1
    by_cases hlt : k < n
    · obtain ⟨⟨b1, b2⟩, b3, b4⟩ := dm_bd (i := k) h1 h2 (by omega)
      have m1 := mag_bd (x := (i : Int) / cl - (k : Int) / cl) (b := 36) (by omega) (by omega)
      have m2 := mag_bd (x := (i : Int) % cl - (k : Int) % cl) (b := 36) (by omega) (by omega)
      go_wp2
      refine wp_region_later (by kernel_rfl) (by kernel_rfl) (fun hlx => ?_)
      repeat (go_big_quiet_step ((go_at_call 48; exact Later.same (absOf_any _ _ (by omega) (by omega)))))
      refine wpQuiet_nil ?_
      clear hlx
      intro w3 hbw3
      obtain ⟨hzw3, hcw3, hfw3⟩ := bfacts hbw3; (try simp at hzw3 hcw3 hfw3); (try (have : w.heap.size < w3.heap.size := by omega)); (try (have : w.heap.size + 1 < w3.heap.size := by omega)); (try (have : w.heap.size + 1 + 1 < w3.heap.size := by omega)); (try (have : w.heap.size + 1 + 1 + 1 < w3.heap.size := by omega))
      have hO3 := Lib.hid (ownsRow_below hO hbw3)
      have hB3 := hB.below hbw3 (by omega)
      have hlen := pick_len (p := fun k => bsd cl i k) (h := fun k => (k : Int)) k
      have hlen2 : (nearL cl i k).length ≤ k := hlen
      clear hO hlen
      by_cases hq : rowsD cl i k + colsD cl i k = 1
      · have hh : Hid (bsd cl i k = true) := by show _ = _; simp [bsd, hq]
        unfold rowsD colsD at hq
        go_wp2_with (at_builtin; refine wpList_append_int1 _ rfl _ _ 22 rfl (w.heap.size + 1) 3 i0 Try.underlying22 hi0 hz0 hz1 hz2 _ _ _ rfl (hO3.out.alloc _) _ _ ((k : Int)) rfl ?_ ?_ ?_ ?_; go_must (focus (simp; done)); go_must (focus omega); go_must (focus (simp; omega)); intro v9 w4 hOw4 hbw4; have hzw4 := hbw4.size; (try simp at hzw4))
        have hB4 : Blk w4 w.heap.size 27 #[.int .i64 r, .int .i64 cl, .slice A n c] := (hB3.alloc _).below hbw4 (by omega)
        go_roundw
        case rel => exact ⟨k + 1, by omega, by go_num, by unfold nearL; rw [pick_hit hh.out]; exact owns_snoc hOw4, hB4, by repeat' (first | (with_reducible exact Below.refl _ _) | (with_reducible assumption) | (with_reducible refine Below.alloc ?_ ?_ _) | (with_reducible refine Below.drew ?_) | (with_reducible refine Below.setCell ?_ ?_ _) | (with_reducible refine Below.stepB (by assumption) ?_ ?_) | go_size), by omega⟩
        case measure => simp [intOf]; omega
      · have hh : Hid (bsd cl i k = false) := by show _ = _; simp [bsd, hq]
        unfold rowsD colsD at hq
        go_wp2
        go_roundw
        case rel => exact ⟨k + 1, by omega, by go_num, by unfold nearL; rw [pick_miss hh.out]; exact hO3.out, hB3, by repeat' (first | (with_reducible exact Below.refl _ _) | (with_reducible assumption) | (with_reducible refine Below.alloc ?_ ?_ _) | (with_reducible refine Below.drew ?_) | (with_reducible refine Below.setCell ?_ ?_ _) | (with_reducible refine Below.stepB (by assumption) ?_ ?_) | go_size), by omega⟩
        case measure => simp [intOf]; omega
    · obtain rfl : k = n := by omega
      go_wp2
      go_ret
      exact ⟨_, _, _, rfl, rfl, (ownI_of rfl hO).more (by omega), by repeat' (first | (with_reducible exact Below.refl _ _) | (with_reducible assumption) | (with_reducible refine Below.alloc ?_ ?_ _) | (with_reducible refine Below.drew ?_) | (with_reducible refine Below.setCell ?_ ?_ _) | (with_reducible refine Below.stepB (by assumption) ?_ ?_) | go_size)⟩
end Go.Proofs.Ytepibbjcmjabiaa
