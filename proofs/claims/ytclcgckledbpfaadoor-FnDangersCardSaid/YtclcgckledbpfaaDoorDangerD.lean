/- Contracts of the functions that choose dangers: blocked ones. -/
import Derived.Test.YtclcgckledbpfaaDoorDangerC
import Derived.Test.YtclcgckledbpfaaDoorInts
namespace Go.Proofs.YtclcgckledbpfaaDoor
open Go.RowKit
/-- the Ids of the chosen ones of 0 .. k - 1 -/
def pick {α : Type} (p : Nat → Bool) (h : Nat → α) : Nat → List α
  | 0 => []
  | k + 1 => pick p h k ++ (if p k = true then [h k] else [])
theorem pick_hit {α : Type} {p : Nat → Bool} {h : Nat → α} {k : Nat} (hp : p k = true) : pick p h (k + 1) = pick p h k ++ [h k] := by simp [pick, hp]
theorem pick_miss {α : Type} {p : Nat → Bool} {h : Nat → α} {k : Nat} (hp : p k = false) : pick p h (k + 1) = pick p h k := by simp [pick, hp]
theorem pick_len {α : Type} {p : Nat → Bool} {h : Nat → α} : ∀ k, (pick p h k).length ≤ k
  | 0 => by simp [pick]
  | k + 1 => by
    have := pick_len (p := p) (h := h) k
    unfold pick
    split <;> simp <;> omega
theorem int_info : (Tryd.prog.info? 3).map (fun i => (i.zero, i.size, i.bytes)) = some (some (.int .i64 0), 1, 8) := by kernel_rfl
def blockP (f : Nat → DG) (d u : Int) (i : Nat) : Bool := decide (safeV (f i) < d + u)
def blockOk (f : Nat → DG) (d u : Int) (n : Nat) : Bool := goodDAll f n && (inB d 10 2000 && inB u 0 500)
def blockL (f : Nat → DG) (d u : Int) (n : Nat) : List Int := if blockOk f d u n = true then pick (blockP f d u) (fun i => (f i).id) n else []
theorem BlockedFor_yes (A : Option Addr) (n c : Nat) (f : Nat → DG) (d u : Int) (w : World) (hS : SlDG w A n f) (hn : n ≤ 1048576) (hg : goodDAll f n = true) (hd : inB d 10 2000 = true) (hu : inB u 0 500 = true) :
    Calls Tryd.prog 14 #[.slice A n c, .int .i64 d, .int .i64 u] w
    fun e w' => ∃ A' m c', e = .returned (.tuple #[.slice A' m c', .bool true]) ∧ m = (pick (blockP f d u) (fun i => (f i).id) n).length ∧ OwnI w' w.heap.size A' m (fun i => (pick (blockP f d u) (fun i => (f i).id) n).getD i 0) ∧ Below w.heap.size w w' := by
  obtain ⟨d1, d2⟩ := inB_iff.1 hd
  obtain ⟨u1, u2⟩ := inB_iff.1 hu
  obtain ⟨i0, hi0, hz0, hz1, hz2⟩ := info_parts int_info
  go_enter Tryd.func14, Tryd.ntmps14
  go_wp2_with fail
  refine (AreDangers_any A n c f _ (hS.below (by repeat' (first | (with_reducible exact Below.refl _ _) | (with_reducible assumption) | (with_reducible refine Below.alloc ?_ ?_ _) | (with_reducible refine Below.drew ?_) | (with_reducible refine Below.setCell ?_ ?_ _) | (with_reducible refine Below.stepB (by assumption) ?_ ?_) | go_size))) hn).mono ?_
  rintro e w1 ⟨rfl, hbw1⟩
  obtain ⟨hzw1, hcw1, hfw1⟩ := bfacts hbw1; (try simp at hzw1 hcw1 hfw1); (try (have : w.heap.size < w1.heap.size := by omega)); (try (have : w.heap.size + 1 < w1.heap.size := by omega)); (try (have : w.heap.size + 1 + 1 < w1.heap.size := by omega)); (try (have : w.heap.size + 1 + 1 + 1 < w1.heap.size := by omega))
  go_wp2_with (go_at_call 33; refine (inside_any _ _ _ _).mono ?_; rintro e w' ⟨rfl, rfl⟩)
  have hO0 := ownsRow_empty w1 3 1
  go_loopw [8, 27] (fun v8 vc wr => ∃ k : Nat, k ≤ n ∧ vc = .int .i64 k ∧ wr.ownsRow w1.heap.size 3 1 v8 (pick (blockP f d u) (fun i => (f i).id) k).length ((pick (blockP f d u) (fun i => (f i).id) k).map (Value.int .i64)) ∧ Below w.heap.size w wr ∧ w1.heap.size ≤ wr.heap.size) (fun _ vc _ => n - (intOf vc).toNat)
  case atStart => exact ⟨0, Nat.zero_le _, rfl, hO0, by repeat' (first | (with_reducible exact Below.refl _ _) | (with_reducible assumption) | (with_reducible refine Below.alloc ?_ ?_ _) | (with_reducible refine Below.drew ?_) | (with_reducible refine Below.setCell ?_ ?_ _) | (with_reducible refine Below.stepB (by assumption) ?_ ?_) | go_size), by go_size⟩
  case round =>
    clear hO0
    obtain ⟨k, hk, rfl, hO, hbr, hzr1⟩ := hrel
    have hzr := hbr.size
    obtain ⟨A8, c8, rfl⟩ := ownsRow_form hO
    by_cases hlt : k < n
    · have hok := goodD_lt (goodDAll_iff.1 hg).1 k hlt
      obtain ⟨b, off, rfl, hbl, hbl2, c0, c1, c2, c3, c4, c5, c6, _⟩ := hS.at hbr hlt
      go_wp2_with fail
      refine (safeOver_any (f k) _ hok).mono ?_
      rintro e w3 ⟨rfl, hbw3⟩
      obtain ⟨hzw3, hcw3, hfw3⟩ := bfacts hbw3; (try simp at hzw3 hcw3 hfw3); (try (have : w.heap.size < w3.heap.size := by omega)); (try (have : w.heap.size + 1 < w3.heap.size := by omega)); (try (have : w.heap.size + 1 + 1 < w3.heap.size := by omega)); (try (have : w.heap.size + 1 + 1 + 1 < w3.heap.size := by omega))
      have hO3 := Lib.hid (ownsRow_below (hO.alloc _) hbw3)
      have hlen := pick_len (p := blockP f d u) (h := fun i => (f i).id) k
      clear hO
      go_wp2_with (at_builtin; refine wpList_append_int1 _ rfl _ _ 42 rfl w1.heap.size 3 i0 Tryd.underlying42 hi0 hz0 hz1 hz2 _ _ _ rfl (hO3.out.alloc _) _ _ ((f k).id) rfl ?_ ?_ ?_ ?_; go_must (focus (simp; done)); go_must (focus omega); go_must (focus (simp; omega)); intro v9 w4 hOw4 hbw4; have hzw4 := hbw4.size; (try simp at hzw4))
      · have hh : blockP f d u k = true := by simpa [blockP] using (show safeV (f k) < d + u by assumption)
        go_roundw
        case rel => exact ⟨k + 1, by omega, by go_num, by rw [pick_hit hh]; exact owns_snoc hOw4, by repeat' (first | (with_reducible exact Below.refl _ _) | (with_reducible assumption) | (with_reducible refine Below.alloc ?_ ?_ _) | (with_reducible refine Below.drew ?_) | (with_reducible refine Below.setCell ?_ ?_ _) | (with_reducible refine Below.stepB (by assumption) ?_ ?_) | go_size), by omega⟩
        case measure => simp [intOf]; omega
      · have hh : blockP f d u k = false := by simp [blockP]; omega
        go_roundw
        case rel => exact ⟨k + 1, by omega, by go_num, by rw [pick_miss hh]; exact hO3.out, by repeat' (first | (with_reducible exact Below.refl _ _) | (with_reducible assumption) | (with_reducible refine Below.alloc ?_ ?_ _) | (with_reducible refine Below.drew ?_) | (with_reducible refine Below.setCell ?_ ?_ _) | (with_reducible refine Below.stepB (by assumption) ?_ ?_) | go_size), by omega⟩
        case measure => simp [intOf]; omega
    · obtain rfl : k = n := by omega
      go_wp2
      go_ret2
      exact ⟨_, _, _, rfl, rfl, (ownI_of rfl hO).more (by omega), by repeat' (first | (with_reducible exact Below.refl _ _) | (with_reducible assumption) | (with_reducible refine Below.alloc ?_ ?_ _) | (with_reducible refine Below.drew ?_) | (with_reducible refine Below.setCell ?_ ?_ _) | (with_reducible refine Below.stepB (by assumption) ?_ ?_) | go_size)⟩
theorem BlockedFor_no (A : Option Addr) (n c : Nat) (f : Nat → DG) (d u : Int) (w : World) (hS : SlDG w A n f) (hn : n ≤ 1048576) (h : ¬ (goodDAll f n = true ∧ inB d 10 2000 = true ∧ inB u 0 500 = true)) :
    Calls Tryd.prog 14 #[.slice A n c, .int .i64 d, .int .i64 u] w
    fun e w' => ∃ A' c', e = .returned (.tuple #[.slice A' 0 c', .bool false]) ∧ Below w.heap.size w w' := by
  obtain ⟨r, hr⟩ : ∃ r, goodDAll f n = r := ⟨_, rfl⟩
  have hA := fun W (hb : Below w.heap.size w W) => AreDangers_any A n c f W (hS.below hb) hn
  rw [hr] at h hA
  have HA := Lib.hid hA
  clear hr hA hS
  rcases Bool.eq_false_or_eq_true r with rfl | rfl <;> rcases Bool.eq_false_or_eq_true (inB d 10 2000) with hd | hd <;> rcases Bool.eq_false_or_eq_true (inB u 0 500) with hu | hu
  · exact absurd ⟨rfl, hd, hu⟩ h
  all_goals
    clear h
    go_enter Tryd.func14, Tryd.ntmps14
    go_wp2_with fail
    refine (HA.out _ (by repeat' (first | (with_reducible exact Below.refl _ _) | (with_reducible assumption) | (with_reducible refine Below.alloc ?_ ?_ _) | (with_reducible refine Below.drew ?_) | (with_reducible refine Below.setCell ?_ ?_ _) | (with_reducible refine Below.stepB (by assumption) ?_ ?_) | go_size))).mono ?_
    rintro e w1 ⟨rfl, hbw1⟩
    obtain ⟨hzw1, hcw1, hfw1⟩ := bfacts hbw1; (try simp at hzw1 hcw1 hfw1); (try (have : w.heap.size < w1.heap.size := by omega)); (try (have : w.heap.size + 1 < w1.heap.size := by omega)); (try (have : w.heap.size + 1 + 1 < w1.heap.size := by omega)); (try (have : w.heap.size + 1 + 1 + 1 < w1.heap.size := by omega))
    go_wp2_with (go_at_call 33; refine (inside_any _ _ _ _).mono ?_; rintro e w' ⟨rfl, rfl⟩)
    go_ret2
    exact ⟨_, _, rfl, by repeat' (first | (with_reducible exact Below.refl _ _) | (with_reducible assumption) | (with_reducible refine Below.alloc ?_ ?_ _) | (with_reducible refine Below.drew ?_) | (with_reducible refine Below.setCell ?_ ?_ _) | (with_reducible refine Below.stepB (by assumption) ?_ ?_) | go_size)⟩
theorem BlockedFor_any (A : Option Addr) (n c : Nat) (f : Nat → DG) (d u : Int) (w : World) (hS : SlDG w A n f) (hn : n ≤ 1048576) :
    Calls Tryd.prog 14 #[.slice A n c, .int .i64 d, .int .i64 u] w
    fun e w' => ∃ A' c', e = .returned (.tuple #[.slice A' (blockL f d u n).length c', .bool (blockOk f d u n)]) ∧ OwnI w' w.heap.size A' (blockL f d u n).length (fun i => (blockL f d u n).getD i 0) ∧ Below w.heap.size w w' := by
  by_cases h : goodDAll f n = true ∧ inB d 10 2000 = true ∧ inB u 0 500 = true
  · have e1 : blockOk f d u n = true := by simp [blockOk, h.1, h.2.1, h.2.2]
    have e2 : blockL f d u n = pick (blockP f d u) (fun i => (f i).id) n := by simp [blockL, e1]
    rw [e1, e2]
    exact (BlockedFor_yes A n c f d u w hS hn h.1 h.2.1 h.2.2).mono fun _ _ ⟨A', m, c', h1, h2, h3, h4⟩ => by subst h2; exact ⟨A', c', h1, h3, h4⟩
  · have e1 : blockOk f d u n = false := by
      rcases Bool.eq_false_or_eq_true (blockOk f d u n) with hh | hh
      · simp only [blockOk, Bool.and_eq_true] at hh
        exact absurd ⟨hh.1, hh.2.1, hh.2.2⟩ h
      · exact hh
    have e2 : blockL f d u n = [] := by simp [blockL, e1]
    rw [e1, e2]
    exact (BlockedFor_no A n c f d u w hS hn h).mono fun _ _ ⟨A', c', h1, h4⟩ => ⟨A', c', h1, fun h => absurd h (by simp), h4⟩
theorem specBlocked_yes (A : Option Addr) (n c : Nat) (f : Nat → DG) (d u : Int) (w : World) (hS : SlDG w A n f) (hn : n ≤ 1048576) (hg : goodDAll f n = true) (hd : inB d 10 2000 = true) (hu : inB u 0 500 = true) :
    Calls Tryd.prog 15 #[.slice A n c, .int .i64 d, .int .i64 u] w
    fun e w' => ∃ A' m c', e = .returned (.tuple #[.slice A' m c', .bool true]) ∧ m = (pick (blockP f d u) (fun i => (f i).id) n).length ∧ OwnI w' w.heap.size A' m (fun i => (pick (blockP f d u) (fun i => (f i).id) n).getD i 0) ∧ Below w.heap.size w w' := by
  obtain ⟨d1, d2⟩ := inB_iff.1 hd
  obtain ⟨u1, u2⟩ := inB_iff.1 hu
  obtain ⟨i0, hi0, hz0, hz1, hz2⟩ := info_parts int_info
  go_enter Tryd.func15, Tryd.ntmps15
  go_wp2_with fail
  refine (l17Good_any A n c f _ (hS.below (by repeat' (first | (with_reducible exact Below.refl _ _) | (with_reducible assumption) | (with_reducible refine Below.alloc ?_ ?_ _) | (with_reducible refine Below.drew ?_) | (with_reducible refine Below.setCell ?_ ?_ _) | (with_reducible refine Below.stepB (by assumption) ?_ ?_) | go_size))) hn).mono ?_
  rintro e w1 ⟨rfl, hbw1⟩
  obtain ⟨hzw1, hcw1, hfw1⟩ := bfacts hbw1; (try simp at hzw1 hcw1 hfw1); (try (have : w.heap.size < w1.heap.size := by omega)); (try (have : w.heap.size + 1 < w1.heap.size := by omega)); (try (have : w.heap.size + 1 + 1 < w1.heap.size := by omega)); (try (have : w.heap.size + 1 + 1 + 1 < w1.heap.size := by omega))
  go_wp2_with (go_at_call 43; refine (l1In_any _ _ _ _).mono ?_; rintro e w' ⟨rfl, rfl⟩)
  have hO0 := ownsRow_below (ownsRow_empty w 3 1) hbw1
  go_loopw [8, 9] (fun v8 vc wr => ∃ k : Nat, k ≤ n ∧ vc = .int .i64 k ∧ wr.ownsRow w.heap.size 3 1 v8 (pick (blockP f d u) (fun i => (f i).id) k).length ((pick (blockP f d u) (fun i => (f i).id) k).map (Value.int .i64)) ∧ Below w.heap.size w wr ∧ w.heap.size ≤ wr.heap.size) (fun _ vc _ => n - (intOf vc).toNat)
  case atStart => exact ⟨0, Nat.zero_le _, rfl, hO0, by repeat' (first | (with_reducible exact Below.refl _ _) | (with_reducible assumption) | (with_reducible refine Below.alloc ?_ ?_ _) | (with_reducible refine Below.drew ?_) | (with_reducible refine Below.setCell ?_ ?_ _) | (with_reducible refine Below.stepB (by assumption) ?_ ?_) | go_size), by go_size⟩
  case round =>
    clear hO0
    obtain ⟨k, hk, rfl, hO, hbr, hzr1⟩ := hrel
    have hzr := hbr.size
    obtain ⟨A8, c8, rfl⟩ := ownsRow_form hO
    by_cases hlt : k < n
    · have hok := goodD_lt (goodDAll_iff.1 hg).1 k hlt
      obtain ⟨b, off, rfl, hbl, hbl2, c0, c1, c2, c3, c4, c5, c6, _⟩ := hS.at hbr hlt
      go_wp2_with fail
      refine (l17Safe_any (f k) _ hok).mono ?_
      rintro e w3 ⟨rfl, hbw3⟩
      obtain ⟨hzw3, hcw3, hfw3⟩ := bfacts hbw3; (try simp at hzw3 hcw3 hfw3); (try (have : w.heap.size < w3.heap.size := by omega)); (try (have : w.heap.size + 1 < w3.heap.size := by omega)); (try (have : w.heap.size + 1 + 1 < w3.heap.size := by omega)); (try (have : w.heap.size + 1 + 1 + 1 < w3.heap.size := by omega))
      have hO3 := Lib.hid (ownsRow_below hO hbw3)
      have hlen := pick_len (p := blockP f d u) (h := fun i => (f i).id) k
      clear hO
      go_wp2_with (at_builtin; refine wpList_append_int1 _ rfl _ _ 42 rfl w.heap.size 3 i0 Tryd.underlying42 hi0 hz0 hz1 hz2 _ _ _ rfl (hO3.out.alloc _) _ _ ((f k).id) rfl ?_ ?_ ?_ ?_; go_must (focus (simp; done)); go_must (focus omega); go_must (focus (simp; omega)); intro v9 w4 hOw4 hbw4; have hzw4 := hbw4.size; (try simp at hzw4))
      · have hh : blockP f d u k = true := by simpa [blockP] using (show safeV (f k) < d + u by assumption)
        go_roundw
        case rel => exact ⟨k + 1, by omega, by go_num, by rw [pick_hit hh]; exact owns_snoc hOw4, by repeat' (first | (with_reducible exact Below.refl _ _) | (with_reducible assumption) | (with_reducible refine Below.alloc ?_ ?_ _) | (with_reducible refine Below.drew ?_) | (with_reducible refine Below.setCell ?_ ?_ _) | (with_reducible refine Below.stepB (by assumption) ?_ ?_) | go_size), by omega⟩
        case measure => simp [intOf]; omega
      · have hh : blockP f d u k = false := by simp [blockP]; omega
        go_roundw
        case rel => exact ⟨k + 1, by omega, by go_num, by rw [pick_miss hh]; exact hO3.out, by repeat' (first | (with_reducible exact Below.refl _ _) | (with_reducible assumption) | (with_reducible refine Below.alloc ?_ ?_ _) | (with_reducible refine Below.drew ?_) | (with_reducible refine Below.setCell ?_ ?_ _) | (with_reducible refine Below.stepB (by assumption) ?_ ?_) | go_size), by omega⟩
        case measure => simp [intOf]; omega
    · obtain rfl : k = n := by omega
      go_wp2
      go_ret2
      exact ⟨_, _, _, rfl, rfl, (ownI_of rfl hO).more (by omega), by repeat' (first | (with_reducible exact Below.refl _ _) | (with_reducible assumption) | (with_reducible refine Below.alloc ?_ ?_ _) | (with_reducible refine Below.drew ?_) | (with_reducible refine Below.setCell ?_ ?_ _) | (with_reducible refine Below.stepB (by assumption) ?_ ?_) | go_size)⟩
theorem specBlocked_no (A : Option Addr) (n c : Nat) (f : Nat → DG) (d u : Int) (w : World) (hS : SlDG w A n f) (hn : n ≤ 1048576) (h : ¬ (goodDAll f n = true ∧ inB d 10 2000 = true ∧ inB u 0 500 = true)) :
    Calls Tryd.prog 15 #[.slice A n c, .int .i64 d, .int .i64 u] w
    fun e w' => ∃ A' c', e = .returned (.tuple #[.slice A' 0 c', .bool false]) ∧ Below w.heap.size w w' := by
  obtain ⟨r, hr⟩ : ∃ r, goodDAll f n = r := ⟨_, rfl⟩
  have hA := fun W (hb : Below w.heap.size w W) => l17Good_any A n c f W (hS.below hb) hn
  rw [hr] at h hA
  have HA := Lib.hid hA
  clear hr hA hS
  rcases Bool.eq_false_or_eq_true r with rfl | rfl <;> rcases Bool.eq_false_or_eq_true (inB d 10 2000) with hd | hd <;> rcases Bool.eq_false_or_eq_true (inB u 0 500) with hu | hu
  · exact absurd ⟨rfl, hd, hu⟩ h
  all_goals
    clear h
    go_enter Tryd.func15, Tryd.ntmps15
    go_wp2_with fail
    refine (HA.out _ (by repeat' (first | (with_reducible exact Below.refl _ _) | (with_reducible assumption) | (with_reducible refine Below.alloc ?_ ?_ _) | (with_reducible refine Below.drew ?_) | (with_reducible refine Below.setCell ?_ ?_ _) | (with_reducible refine Below.stepB (by assumption) ?_ ?_) | go_size))).mono ?_
    rintro e w1 ⟨rfl, hbw1⟩
    obtain ⟨hzw1, hcw1, hfw1⟩ := bfacts hbw1; (try simp at hzw1 hcw1 hfw1); (try (have : w.heap.size < w1.heap.size := by omega)); (try (have : w.heap.size + 1 < w1.heap.size := by omega)); (try (have : w.heap.size + 1 + 1 < w1.heap.size := by omega)); (try (have : w.heap.size + 1 + 1 + 1 < w1.heap.size := by omega))
    go_wp2_with (go_at_call 43; refine (l1In_any _ _ _ _).mono ?_; rintro e w' ⟨rfl, rfl⟩)
    go_ret2
    exact ⟨_, _, rfl, by repeat' (first | (with_reducible exact Below.refl _ _) | (with_reducible assumption) | (with_reducible refine Below.alloc ?_ ?_ _) | (with_reducible refine Below.drew ?_) | (with_reducible refine Below.setCell ?_ ?_ _) | (with_reducible refine Below.stepB (by assumption) ?_ ?_) | go_size)⟩
theorem specBlocked_any (A : Option Addr) (n c : Nat) (f : Nat → DG) (d u : Int) (w : World) (hS : SlDG w A n f) (hn : n ≤ 1048576) :
    Calls Tryd.prog 15 #[.slice A n c, .int .i64 d, .int .i64 u] w
    fun e w' => ∃ A' c', e = .returned (.tuple #[.slice A' (blockL f d u n).length c', .bool (blockOk f d u n)]) ∧ OwnI w' w.heap.size A' (blockL f d u n).length (fun i => (blockL f d u n).getD i 0) ∧ Below w.heap.size w w' := by
  by_cases h : goodDAll f n = true ∧ inB d 10 2000 = true ∧ inB u 0 500 = true
  · have e1 : blockOk f d u n = true := by simp [blockOk, h.1, h.2.1, h.2.2]
    have e2 : blockL f d u n = pick (blockP f d u) (fun i => (f i).id) n := by simp [blockL, e1]
    rw [e1, e2]
    exact (specBlocked_yes A n c f d u w hS hn h.1 h.2.1 h.2.2).mono fun _ _ ⟨A', m, c', h1, h2, h3, h4⟩ => by subst h2; exact ⟨A', c', h1, h3, h4⟩
  · have e1 : blockOk f d u n = false := by
      rcases Bool.eq_false_or_eq_true (blockOk f d u n) with hh | hh
      · simp only [blockOk, Bool.and_eq_true] at hh
        exact absurd ⟨hh.1, hh.2.1, hh.2.2⟩ h
      · exact hh
    have e2 : blockL f d u n = [] := by simp [blockL, e1]
    rw [e1, e2]
    exact (specBlocked_no A n c f d u w hS hn h).mono fun _ _ ⟨A', c', h1, h4⟩ => ⟨A', c', h1, fun h => absurd h (by simp), h4⟩
theorem blockL_len (f : Nat → DG) (d u : Int) (n : Nat) (hn : n ≤ 1048576) : (blockL f d u n).length ≤ 1048576 := by
  unfold blockL
  split
  · have := pick_len (p := blockP f d u) (h := fun i => (f i).id) n
    omega
  · simp
end Go.Proofs.YtclcgckledbpfaaDoor
