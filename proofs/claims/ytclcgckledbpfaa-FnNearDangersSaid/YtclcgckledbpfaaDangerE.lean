/- Contracts of the functions that choose dangers: old ones; the shallowest one of a kind. -/
import Derived.Test.YtclcgckledbpfaaDangerD
import Derived.Test.YtclcgckledbpfaaOuts
namespace Go.Proofs.Ytclcgckledbpfaa
open Go.RowKit
def allUpto (p : Nat → Bool) : Nat → Bool
  | 0 => true
  | k + 1 => allUpto p k && p k
theorem allUpto_not {p : Nat → Bool} {k : Nat} (h : p k = false) : ∀ n, k < n → allUpto p n = false
  | 0, h0 => absurd h0 (by omega)
  | n + 1, h0 => by
    rcases Nat.lt_or_ge k n with h1 | h1
    · simp [allUpto, allUpto_not h n h1]
    · obtain rfl : k = n := by omega
      simp [allUpto, h]
theorem allUpto_lt {p : Nat → Bool} : ∀ {n : Nat}, allUpto p n = true → ∀ k, k < n → p k = true
  | 0, _, k, h => absurd h (by omega)
  | n + 1, hg, k, h => by
    simp only [allUpto, Bool.and_eq_true] at hg
    rcases Nat.lt_or_ge k n with h1 | h1
    · exact allUpto_lt hg.1 k h1
    · obtain rfl : k = n := by omega
      exact hg.2
def seenP (f : Nat → DG) (t : Int) (i : Nat) : Bool := decide ((f i).seen ≤ t)
def oldP (f : Nat → DG) (t a : Int) (i : Nat) : Bool := decide (a < t - (f i).seen)
def oldOk (f : Nat → DG) (t a : Int) (n : Nat) : Bool := (goodDAll f n && (inB t 0 10000 && inB a 0 10000)) && allUpto (seenP f t) n
def oldL (f : Nat → DG) (t a : Int) (n : Nat) : List Int := if oldOk f t a n = true then pick (oldP f t a) (fun i => (f i).id) n else []
theorem OldDangers_yes (A : Option Addr) (n c : Nat) (f : Nat → DG) (t a : Int) (w : World) (hS : SlDG w A n f) (hn : n ≤ 1048576) (hg : goodDAll f n = true) (ht : inB t 0 10000 = true) (ha : inB a 0 10000 = true) :
    Calls Try.prog 26 #[.slice A n c, .int .i64 t, .int .i64 a] w
    fun e w' => IntsOut w (oldL f t a n) (oldOk f t a n) e w' := by
  obtain ⟨t1, t2⟩ := inB_iff.1 ht
  obtain ⟨u1, u2⟩ := inB_iff.1 ha
  obtain ⟨i0, hi0, hz0, hz1, hz2⟩ := info_parts int_info
  have hok0 : Hid (oldOk f t a n = allUpto (seenP f t) n) := by show _ = _; simp [oldOk, hg, ht, ha]
  go_enter Try.func26, Try.ntmps26
  go_wp2_with fail
  refine (AreDangers_any A n c f _ (hS.below (by repeat' (first | (with_reducible exact Below.refl _ _) | (with_reducible assumption) | (with_reducible refine Below.alloc ?_ ?_ _) | (with_reducible refine Below.drew ?_) | (with_reducible refine Below.setCell ?_ ?_ _) | (with_reducible refine Below.stepB (by assumption) ?_ ?_) | go_size))) hn).mono ?_
  rintro e w1 ⟨rfl, hbw1⟩
  obtain ⟨hzw1, hcw1, hfw1⟩ := bfacts hbw1; (try simp at hzw1 hcw1 hfw1); (try (have : w.heap.size < w1.heap.size := by omega)); (try (have : w.heap.size + 1 < w1.heap.size := by omega)); (try (have : w.heap.size + 1 + 1 < w1.heap.size := by omega)); (try (have : w.heap.size + 1 + 1 + 1 < w1.heap.size := by omega))
  go_wp2_with (first | (go_at_call 57; refine (isTime_any _ _).mono ?_; rintro e w' ⟨rfl, rfl⟩) | (go_at_call 53; refine (inside_any _ _ _ _).mono ?_; rintro e w' ⟨rfl, rfl⟩))
  have hO0 := ownsRow_empty w1 3 1
  go_loopw [8, 27] (fun v8 vc wr => ∃ k : Nat, k ≤ n ∧ vc = .int .i64 k ∧ allUpto (seenP f t) k = true ∧ wr.ownsRow w1.heap.size 3 1 v8 (pick (oldP f t a) (fun i => (f i).id) k).length ((pick (oldP f t a) (fun i => (f i).id) k).map (Value.int .i64)) ∧ Below w.heap.size w wr ∧ w1.heap.size ≤ wr.heap.size) (fun _ vc _ => n - (intOf vc).toNat)
  case atStart => exact ⟨0, Nat.zero_le _, rfl, rfl, hO0, by repeat' (first | (with_reducible exact Below.refl _ _) | (with_reducible assumption) | (with_reducible refine Below.alloc ?_ ?_ _) | (with_reducible refine Below.drew ?_) | (with_reducible refine Below.setCell ?_ ?_ _) | (with_reducible refine Below.stepB (by assumption) ?_ ?_) | go_size), by go_size⟩
  case round =>
    clear hO0
    obtain ⟨k, hk, rfl, hall, hO, hbr, hzr1⟩ := hrel
    have hzr := hbr.size
    have HALL := Lib.hid hall
    clear hall
    obtain ⟨A8, c8, rfl⟩ := ownsRow_form hO
    by_cases hlt : k < n
    · obtain ⟨hb1, _, _, _, hb2⟩ := okD_bd (goodD_lt (goodDAll_iff.1 hg).1 k hlt)
      obtain ⟨b, off, rfl, hbl, hbl2, c0, c1, c2, c3, c4, c5, c6, _⟩ := hS.at hbr hlt
      have hO3 := Lib.hid hO
      have hlen := pick_len (p := oldP f t a) (h := fun i => (f i).id) k
      clear hO
      by_cases hs : (f k).seen ≤ t
      · have hs1 : seenP f t k = true := by simp [seenP, hs]
        go_wp2_with (at_builtin; refine wpList_append_int1 _ rfl _ _ 43 rfl w1.heap.size 3 i0 Try.underlying43 hi0 hz0 hz1 hz2 _ _ _ rfl ((hO3.out.alloc _).alloc _) _ _ ((f k).id) rfl ?_ ?_ ?_ ?_; go_must (focus (simp; done)); go_must (focus omega); go_must (focus (simp; omega)); intro v9 w4 hOw4 hbw4; have hzw4 := hbw4.size; (try simp at hzw4))
        · have hh : oldP f t a k = true := by simp [oldP]; omega
          go_roundw
          case rel => exact ⟨k + 1, by omega, by go_num, by simp [allUpto, HALL.out, hs1], by rw [pick_hit hh]; exact owns_snoc hOw4, by repeat' (first | (with_reducible exact Below.refl _ _) | (with_reducible assumption) | (with_reducible refine Below.alloc ?_ ?_ _) | (with_reducible refine Below.drew ?_) | (with_reducible refine Below.setCell ?_ ?_ _) | (with_reducible refine Below.stepB (by assumption) ?_ ?_) | go_size), by omega⟩
          case measure => simp [intOf]; omega
        · have hh : oldP f t a k = false := by simp [oldP]; omega
          go_roundw
          case rel => exact ⟨k + 1, by omega, by go_num, by simp [allUpto, HALL.out, hs1], by rw [pick_miss hh]; exact hO3.out.alloc _, by repeat' (first | (with_reducible exact Below.refl _ _) | (with_reducible assumption) | (with_reducible refine Below.alloc ?_ ?_ _) | (with_reducible refine Below.drew ?_) | (with_reducible refine Below.setCell ?_ ?_ _) | (with_reducible refine Below.stepB (by assumption) ?_ ?_) | go_size), by go_size⟩
          case measure => simp [intOf]; omega
      · have hs1 : Hid (allUpto (seenP f t) n = false) := allUpto_not (k := k) (by simp [seenP]; omega) n hlt
        go_wp2
        go_ret2
        exact IntsOut.none (by simp [oldL, hok0.out, hs1.out]) (hok0.out.trans hs1.out) (by repeat' (first | (with_reducible exact Below.refl _ _) | (with_reducible assumption) | (with_reducible refine Below.alloc ?_ ?_ _) | (with_reducible refine Below.drew ?_) | (with_reducible refine Below.setCell ?_ ?_ _) | (with_reducible refine Below.stepB (by assumption) ?_ ?_) | go_size))
    · obtain rfl : k = n := by omega
      go_wp2
      go_ret2
      have e1 : oldL f t a k = pick (oldP f t a) (fun i => (f i).id) k := by simp [oldL, hok0.out, HALL.out]
      exact IntsOut.row hO e1 (hok0.out.trans HALL.out) (by omega) (by repeat' (first | (with_reducible exact Below.refl _ _) | (with_reducible assumption) | (with_reducible refine Below.alloc ?_ ?_ _) | (with_reducible refine Below.drew ?_) | (with_reducible refine Below.setCell ?_ ?_ _) | (with_reducible refine Below.stepB (by assumption) ?_ ?_) | go_size))
theorem OldDangers_no (A : Option Addr) (n c : Nat) (f : Nat → DG) (t a : Int) (w : World) (hS : SlDG w A n f) (hn : n ≤ 1048576) (h : ¬ (goodDAll f n = true ∧ inB t 0 10000 = true ∧ inB a 0 10000 = true)) :
    Calls Try.prog 26 #[.slice A n c, .int .i64 t, .int .i64 a] w
    fun e w' => IntsOut w (oldL f t a n) (oldOk f t a n) e w' := by
  have e1 : oldOk f t a n = false := by
    rcases Bool.eq_false_or_eq_true (oldOk f t a n) with hh | hh
    · simp only [oldOk, Bool.and_eq_true] at hh
      exact absurd ⟨hh.1.1, hh.1.2.1, hh.1.2.2⟩ h
    · exact hh
  have e2 : Hid (oldL f t a n = []) := by show _ = _; simp [oldL, e1]
  have E1 := Lib.hid e1
  clear e1
  obtain ⟨r, hr⟩ : ∃ r, goodDAll f n = r := ⟨_, rfl⟩
  have hA := fun W (hb : Below w.heap.size w W) => AreDangers_any A n c f W (hS.below hb) hn
  rw [hr] at h hA
  have HA := Lib.hid hA
  clear hr hA hS
  rcases Bool.eq_false_or_eq_true r with rfl | rfl <;> rcases Bool.eq_false_or_eq_true (inB t 0 10000) with hd | hd <;> rcases Bool.eq_false_or_eq_true (inB a 0 10000) with hu | hu
  · exact absurd ⟨rfl, hd, hu⟩ h
  all_goals
    clear h
    go_enter Try.func26, Try.ntmps26
    go_wp2_with fail
    refine (HA.out _ (by repeat' (first | (with_reducible exact Below.refl _ _) | (with_reducible assumption) | (with_reducible refine Below.alloc ?_ ?_ _) | (with_reducible refine Below.drew ?_) | (with_reducible refine Below.setCell ?_ ?_ _) | (with_reducible refine Below.stepB (by assumption) ?_ ?_) | go_size))).mono ?_
    rintro e w1 ⟨rfl, hbw1⟩
    obtain ⟨hzw1, hcw1, hfw1⟩ := bfacts hbw1; (try simp at hzw1 hcw1 hfw1); (try (have : w.heap.size < w1.heap.size := by omega)); (try (have : w.heap.size + 1 < w1.heap.size := by omega)); (try (have : w.heap.size + 1 + 1 < w1.heap.size := by omega)); (try (have : w.heap.size + 1 + 1 + 1 < w1.heap.size := by omega))
    go_wp2_with (first | (go_at_call 57; refine (isTime_any _ _).mono ?_; rintro e w' ⟨rfl, rfl⟩) | (go_at_call 53; refine (inside_any _ _ _ _).mono ?_; rintro e w' ⟨rfl, rfl⟩))
    go_ret2
    exact IntsOut.none e2.out E1.out (by repeat' (first | (with_reducible exact Below.refl _ _) | (with_reducible assumption) | (with_reducible refine Below.alloc ?_ ?_ _) | (with_reducible refine Below.drew ?_) | (with_reducible refine Below.setCell ?_ ?_ _) | (with_reducible refine Below.stepB (by assumption) ?_ ?_) | go_size))
theorem OldDangers_any (A : Option Addr) (n c : Nat) (f : Nat → DG) (t a : Int) (w : World) (hS : SlDG w A n f) (hn : n ≤ 1048576) :
    Calls Try.prog 26 #[.slice A n c, .int .i64 t, .int .i64 a] w
    fun e w' => IntsOut w (oldL f t a n) (oldOk f t a n) e w' := by
  by_cases h : goodDAll f n = true ∧ inB t 0 10000 = true ∧ inB a 0 10000 = true
  · exact OldDangers_yes A n c f t a w hS hn h.1 h.2.1 h.2.2
  · exact OldDangers_no A n c f t a w hS hn h
theorem specOld_yes (A : Option Addr) (n c : Nat) (f : Nat → DG) (t a : Int) (w : World) (hS : SlDG w A n f) (hn : n ≤ 1048576) (hg : goodDAll f n = true) (ht : inB t 0 10000 = true) (ha : inB a 0 10000 = true) :
    Calls Try.prog 25 #[.slice A n c, .int .i64 t, .int .i64 a] w
    fun e w' => IntsOut w (oldL f t a n) (oldOk f t a n) e w' := by
  obtain ⟨t1, t2⟩ := inB_iff.1 ht
  obtain ⟨u1, u2⟩ := inB_iff.1 ha
  obtain ⟨i0, hi0, hz0, hz1, hz2⟩ := info_parts int_info
  have hok0 : Hid (oldOk f t a n = allUpto (seenP f t) n) := by show _ = _; simp [oldOk, hg, ht, ha]
  go_enter Try.func25, Try.ntmps25
  go_wp2_with fail
  refine (l17Good_any A n c f _ (hS.below (by repeat' (first | (with_reducible exact Below.refl _ _) | (with_reducible assumption) | (with_reducible refine Below.alloc ?_ ?_ _) | (with_reducible refine Below.drew ?_) | (with_reducible refine Below.setCell ?_ ?_ _) | (with_reducible refine Below.stepB (by assumption) ?_ ?_) | go_size))) hn).mono ?_
  rintro e w1 ⟨rfl, hbw1⟩
  obtain ⟨hzw1, hcw1, hfw1⟩ := bfacts hbw1; (try simp at hzw1 hcw1 hfw1); (try (have : w.heap.size < w1.heap.size := by omega)); (try (have : w.heap.size + 1 < w1.heap.size := by omega)); (try (have : w.heap.size + 1 + 1 < w1.heap.size := by omega)); (try (have : w.heap.size + 1 + 1 + 1 < w1.heap.size := by omega))
  go_wp2_with (first | (go_at_call 63; refine (l2Time_any _ _).mono ?_; rintro e w' ⟨rfl, rfl⟩) | (go_at_call 64; refine (l1In_any _ _ _ _).mono ?_; rintro e w' ⟨rfl, rfl⟩))
  have hO0 := ownsRow_below (ownsRow_empty w 3 1) hbw1
  go_loopw [8, 9] (fun v8 vc wr => ∃ k : Nat, k ≤ n ∧ vc = .int .i64 k ∧ allUpto (seenP f t) k = true ∧ wr.ownsRow w.heap.size 3 1 v8 (pick (oldP f t a) (fun i => (f i).id) k).length ((pick (oldP f t a) (fun i => (f i).id) k).map (Value.int .i64)) ∧ Below w.heap.size w wr ∧ w.heap.size ≤ wr.heap.size) (fun _ vc _ => n - (intOf vc).toNat)
  case atStart => exact ⟨0, Nat.zero_le _, rfl, rfl, hO0, by repeat' (first | (with_reducible exact Below.refl _ _) | (with_reducible assumption) | (with_reducible refine Below.alloc ?_ ?_ _) | (with_reducible refine Below.drew ?_) | (with_reducible refine Below.setCell ?_ ?_ _) | (with_reducible refine Below.stepB (by assumption) ?_ ?_) | go_size), by go_size⟩
  case round =>
    clear hO0
    obtain ⟨k, hk, rfl, hall, hO, hbr, hzr1⟩ := hrel
    have hzr := hbr.size
    have HALL := Lib.hid hall
    clear hall
    obtain ⟨A8, c8, rfl⟩ := ownsRow_form hO
    by_cases hlt : k < n
    · obtain ⟨hb1, _, _, _, hb2⟩ := okD_bd (goodD_lt (goodDAll_iff.1 hg).1 k hlt)
      obtain ⟨b, off, rfl, hbl, hbl2, c0, c1, c2, c3, c4, c5, c6, _⟩ := hS.at hbr hlt
      have hO3 := Lib.hid hO
      have hlen := pick_len (p := oldP f t a) (h := fun i => (f i).id) k
      clear hO
      by_cases hs : (f k).seen ≤ t
      · have hs1 : seenP f t k = true := by simp [seenP, hs]
        go_wp2_with (at_builtin; refine wpList_append_int1 _ rfl _ _ 43 rfl w.heap.size 3 i0 Try.underlying43 hi0 hz0 hz1 hz2 _ _ _ rfl (hO3.out.alloc _) _ _ ((f k).id) rfl ?_ ?_ ?_ ?_; go_must (focus (simp; done)); go_must (focus omega); go_must (focus (simp; omega)); intro v9 w4 hOw4 hbw4; have hzw4 := hbw4.size; (try simp at hzw4))
        · have hh : oldP f t a k = true := by simp [oldP]; omega
          go_roundw
          case rel => exact ⟨k + 1, by omega, by go_num, by simp [allUpto, HALL.out, hs1], by rw [pick_hit hh]; exact owns_snoc hOw4, by repeat' (first | (with_reducible exact Below.refl _ _) | (with_reducible assumption) | (with_reducible refine Below.alloc ?_ ?_ _) | (with_reducible refine Below.drew ?_) | (with_reducible refine Below.setCell ?_ ?_ _) | (with_reducible refine Below.stepB (by assumption) ?_ ?_) | go_size), by omega⟩
          case measure => simp [intOf]; omega
        · have hh : oldP f t a k = false := by simp [oldP]; omega
          go_roundw
          case rel => exact ⟨k + 1, by omega, by go_num, by simp [allUpto, HALL.out, hs1], by rw [pick_miss hh]; exact hO3.out, by repeat' (first | (with_reducible exact Below.refl _ _) | (with_reducible assumption) | (with_reducible refine Below.alloc ?_ ?_ _) | (with_reducible refine Below.drew ?_) | (with_reducible refine Below.setCell ?_ ?_ _) | (with_reducible refine Below.stepB (by assumption) ?_ ?_) | go_size), by go_size⟩
          case measure => simp [intOf]; omega
      · have hs1 : Hid (allUpto (seenP f t) n = false) := allUpto_not (k := k) (by simp [seenP]; omega) n hlt
        go_wp2
        go_ret2
        exact IntsOut.none (by simp [oldL, hok0.out, hs1.out]) (hok0.out.trans hs1.out) (by repeat' (first | (with_reducible exact Below.refl _ _) | (with_reducible assumption) | (with_reducible refine Below.alloc ?_ ?_ _) | (with_reducible refine Below.drew ?_) | (with_reducible refine Below.setCell ?_ ?_ _) | (with_reducible refine Below.stepB (by assumption) ?_ ?_) | go_size))
    · obtain rfl : k = n := by omega
      go_wp2
      go_ret2
      have e1 : oldL f t a k = pick (oldP f t a) (fun i => (f i).id) k := by simp [oldL, hok0.out, HALL.out]
      exact IntsOut.row hO e1 (hok0.out.trans HALL.out) (by omega) (by repeat' (first | (with_reducible exact Below.refl _ _) | (with_reducible assumption) | (with_reducible refine Below.alloc ?_ ?_ _) | (with_reducible refine Below.drew ?_) | (with_reducible refine Below.setCell ?_ ?_ _) | (with_reducible refine Below.stepB (by assumption) ?_ ?_) | go_size))
theorem specOld_no (A : Option Addr) (n c : Nat) (f : Nat → DG) (t a : Int) (w : World) (hS : SlDG w A n f) (hn : n ≤ 1048576) (h : ¬ (goodDAll f n = true ∧ inB t 0 10000 = true ∧ inB a 0 10000 = true)) :
    Calls Try.prog 25 #[.slice A n c, .int .i64 t, .int .i64 a] w
    fun e w' => IntsOut w (oldL f t a n) (oldOk f t a n) e w' := by
  have e1 : oldOk f t a n = false := by
    rcases Bool.eq_false_or_eq_true (oldOk f t a n) with hh | hh
    · simp only [oldOk, Bool.and_eq_true] at hh
      exact absurd ⟨hh.1.1, hh.1.2.1, hh.1.2.2⟩ h
    · exact hh
  have e2 : Hid (oldL f t a n = []) := by show _ = _; simp [oldL, e1]
  have E1 := Lib.hid e1
  clear e1
  obtain ⟨r, hr⟩ : ∃ r, goodDAll f n = r := ⟨_, rfl⟩
  have hA := fun W (hb : Below w.heap.size w W) => l17Good_any A n c f W (hS.below hb) hn
  rw [hr] at h hA
  have HA := Lib.hid hA
  clear hr hA hS
  rcases Bool.eq_false_or_eq_true r with rfl | rfl <;> rcases Bool.eq_false_or_eq_true (inB t 0 10000) with hd | hd <;> rcases Bool.eq_false_or_eq_true (inB a 0 10000) with hu | hu
  · exact absurd ⟨rfl, hd, hu⟩ h
  all_goals
    clear h
    go_enter Try.func25, Try.ntmps25
    go_wp2_with fail
    refine (HA.out _ (by repeat' (first | (with_reducible exact Below.refl _ _) | (with_reducible assumption) | (with_reducible refine Below.alloc ?_ ?_ _) | (with_reducible refine Below.drew ?_) | (with_reducible refine Below.setCell ?_ ?_ _) | (with_reducible refine Below.stepB (by assumption) ?_ ?_) | go_size))).mono ?_
    rintro e w1 ⟨rfl, hbw1⟩
    obtain ⟨hzw1, hcw1, hfw1⟩ := bfacts hbw1; (try simp at hzw1 hcw1 hfw1); (try (have : w.heap.size < w1.heap.size := by omega)); (try (have : w.heap.size + 1 < w1.heap.size := by omega)); (try (have : w.heap.size + 1 + 1 < w1.heap.size := by omega)); (try (have : w.heap.size + 1 + 1 + 1 < w1.heap.size := by omega))
    go_wp2_with (first | (go_at_call 63; refine (l2Time_any _ _).mono ?_; rintro e w' ⟨rfl, rfl⟩) | (go_at_call 64; refine (l1In_any _ _ _ _).mono ?_; rintro e w' ⟨rfl, rfl⟩))
    go_ret2
    exact IntsOut.none e2.out E1.out (by repeat' (first | (with_reducible exact Below.refl _ _) | (with_reducible assumption) | (with_reducible refine Below.alloc ?_ ?_ _) | (with_reducible refine Below.drew ?_) | (with_reducible refine Below.setCell ?_ ?_ _) | (with_reducible refine Below.stepB (by assumption) ?_ ?_) | go_size))
theorem specOld_any (A : Option Addr) (n c : Nat) (f : Nat → DG) (t a : Int) (w : World) (hS : SlDG w A n f) (hn : n ≤ 1048576) :
    Calls Try.prog 25 #[.slice A n c, .int .i64 t, .int .i64 a] w
    fun e w' => IntsOut w (oldL f t a n) (oldOk f t a n) e w' := by
  by_cases h : goodDAll f n = true ∧ inB t 0 10000 = true ∧ inB a 0 10000 = true
  · exact specOld_yes A n c f t a w hS hn h.1 h.2.1 h.2.2
  · exact specOld_no A n c f t a w hS hn h
theorem oldL_len (f : Nat → DG) (t a : Int) (n : Nat) (hn : n ≤ 1048576) : (oldL f t a n).length ≤ 1048576 := by
  unfold oldL
  split
  · have := pick_len (p := oldP f t a) (h := fun i => (f i).id) n
    omega
  · simp
end Go.Proofs.Ytclcgckledbpfaa
