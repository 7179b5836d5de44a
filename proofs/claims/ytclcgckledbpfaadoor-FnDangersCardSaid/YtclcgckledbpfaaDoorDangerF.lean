/- Contracts of the functions that choose the shallowest danger of a kind. -/
import Derived.Test.YtclcgckledbpfaaDoorDangerD
import Derived.Test.YtclcgckledbpfaaDoorOuts
namespace Go.Proofs.YtclcgckledbpfaaDoor
open Go.RowKit
/-- the index of the first one that is shallowest among those of a kind, plus one; 0 if there is none -/
def shalV (f : Nat → DG) (t : Int) : Nat → Nat
  | 0 => 0
  | k + 1 => if (f k).kind = t ∧ (shalV f t k = 0 ∨ safeV (f k) < safeV (f (shalV f t k - 1))) then k + 1 else shalV f t k
theorem shalV_le (f : Nat → DG) (t : Int) : ∀ k, shalV f t k ≤ k
  | 0 => Nat.le_refl _
  | k + 1 => by
    have := shalV_le f t k
    unfold shalV
    split <;> omega
theorem shalV_hit {f : Nat → DG} {t : Int} {k : Nat} (h : (f k).kind = t) (h2 : shalV f t k = 0 ∨ safeV (f k) < safeV (f (shalV f t k - 1))) : shalV f t (k + 1) = k + 1 := by
  rw [shalV, if_pos ⟨h, h2⟩]
theorem shalV_miss {f : Nat → DG} {t : Int} {k : Nat} (h : ¬ ((f k).kind = t ∧ (shalV f t k = 0 ∨ safeV (f k) < safeV (f (shalV f t k - 1))))) : shalV f t (k + 1) = shalV f t k := by
  rw [shalV, if_neg h]
def shalOk (f : Nat → DG) (t : Int) (n : Nat) : Bool := (goodDAll f n && inB t 0 2) && decide (0 < shalV f t n)
def shalId (f : Nat → DG) (t : Int) (n : Nat) : Int := if shalOk f t n = true then (f (shalV f t n - 1)).id else 0
/-- the Id and the depth that the program keeps -/
def idAt (f : Nat → DG) (m : Nat) : Int := if m = 0 then 0 else (f (m - 1)).id
def leastAt (f : Nat → DG) (m : Nat) : Int := if m = 0 then 0 else safeV (f (m - 1))
theorem ShallowestOf_no (A : Option Addr) (n c : Nat) (f : Nat → DG) (t : Int) (w : World) (hS : SlDG w A n f) (hn : n ≤ 1048576) (h : ¬ (goodDAll f n = true ∧ inB t 0 2 = true)) :
    Calls Tryd.prog 23 #[.slice A n c, .int .i64 t] w
    fun e w' => e = .returned (.tuple #[.int .i64 (shalId f t n), .bool (shalOk f t n)]) ∧ Below w.heap.size w w' := by
  have e1 : shalOk f t n = false := by
    rcases Bool.eq_false_or_eq_true (shalOk f t n) with hh | hh
    · simp only [shalOk, Bool.and_eq_true] at hh
      exact absurd ⟨hh.1.1, hh.1.2⟩ h
    · exact hh
  have e2 : shalId f t n = 0 := by simp [shalId, e1]
  rw [e1, e2]
  obtain ⟨r, hr⟩ : ∃ r, goodDAll f n = r := ⟨_, rfl⟩
  have hA := fun W (hb : Below w.heap.size w W) => AreDangers_any A n c f W (hS.below hb) hn
  rw [hr] at h hA
  have HA := Lib.hid hA
  clear hr hA hS e1 e2
  rcases Bool.eq_false_or_eq_true r with rfl | rfl <;> rcases Bool.eq_false_or_eq_true (inB t 0 2) with hd | hd
  · exact absurd ⟨rfl, hd⟩ h
  all_goals
    clear h
    go_enter Tryd.func23, Tryd.ntmps23
    go_wp2_with fail
    refine (HA.out _ (by repeat' (first | (with_reducible exact Below.refl _ _) | (with_reducible assumption) | (with_reducible refine Below.alloc ?_ ?_ _) | (with_reducible refine Below.drew ?_) | (with_reducible refine Below.setCell ?_ ?_ _) | (with_reducible refine Below.stepB (by assumption) ?_ ?_) | go_size))).mono ?_
    rintro e w1 ⟨rfl, hbw1⟩
    obtain ⟨hzw1, hcw1, hfw1⟩ := bfacts hbw1; (try simp at hzw1 hcw1 hfw1); (try (have : w.heap.size < w1.heap.size := by omega)); (try (have : w.heap.size + 1 < w1.heap.size := by omega)); (try (have : w.heap.size + 1 + 1 < w1.heap.size := by omega)); (try (have : w.heap.size + 1 + 1 + 1 < w1.heap.size := by omega))
    go_wp2_with (go_at_call 34; refine (isDangerKind_any _ _).mono ?_; rintro e w' ⟨rfl, rfl⟩)
    go_ret2
    exact ⟨rfl, by repeat' (first | (with_reducible exact Below.refl _ _) | (with_reducible assumption) | (with_reducible refine Below.alloc ?_ ?_ _) | (with_reducible refine Below.drew ?_) | (with_reducible refine Below.setCell ?_ ?_ _) | (with_reducible refine Below.stepB (by assumption) ?_ ?_) | go_size)⟩
theorem specShallow_no (A : Option Addr) (n c : Nat) (f : Nat → DG) (t : Int) (w : World) (hS : SlDG w A n f) (hn : n ≤ 1048576) (h : ¬ (goodDAll f n = true ∧ inB t 0 2 = true)) :
    Calls Tryd.prog 24 #[.slice A n c, .int .i64 t] w
    fun e w' => e = .returned (.tuple #[.int .i64 (shalId f t n), .bool (shalOk f t n)]) ∧ Below w.heap.size w w' := by
  have e1 : shalOk f t n = false := by
    rcases Bool.eq_false_or_eq_true (shalOk f t n) with hh | hh
    · simp only [shalOk, Bool.and_eq_true] at hh
      exact absurd ⟨hh.1.1, hh.1.2⟩ h
    · exact hh
  have e2 : shalId f t n = 0 := by simp [shalId, e1]
  rw [e1, e2]
  obtain ⟨r, hr⟩ : ∃ r, goodDAll f n = r := ⟨_, rfl⟩
  have hA := fun W (hb : Below w.heap.size w W) => l17Good_any A n c f W (hS.below hb) hn
  rw [hr] at h hA
  have HA := Lib.hid hA
  clear hr hA hS e1 e2
  rcases Bool.eq_false_or_eq_true r with rfl | rfl <;> rcases Bool.eq_false_or_eq_true (inB t 0 2) with hd | hd
  · exact absurd ⟨rfl, hd⟩ h
  all_goals
    clear h
    go_enter Tryd.func24, Tryd.ntmps24
    go_wp2_with fail
    refine (HA.out _ (by repeat' (first | (with_reducible exact Below.refl _ _) | (with_reducible assumption) | (with_reducible refine Below.alloc ?_ ?_ _) | (with_reducible refine Below.drew ?_) | (with_reducible refine Below.setCell ?_ ?_ _) | (with_reducible refine Below.stepB (by assumption) ?_ ?_) | go_size))).mono ?_
    rintro e w1 ⟨rfl, hbw1⟩
    obtain ⟨hzw1, hcw1, hfw1⟩ := bfacts hbw1; (try simp at hzw1 hcw1 hfw1); (try (have : w.heap.size < w1.heap.size := by omega)); (try (have : w.heap.size + 1 < w1.heap.size := by omega)); (try (have : w.heap.size + 1 + 1 < w1.heap.size := by omega)); (try (have : w.heap.size + 1 + 1 + 1 < w1.heap.size := by omega))
    go_wp2_with (go_at_call 49; refine (l17Kind_any _ _).mono ?_; rintro e w' ⟨rfl, rfl⟩)
    go_ret2
    exact ⟨rfl, by repeat' (first | (with_reducible exact Below.refl _ _) | (with_reducible assumption) | (with_reducible refine Below.alloc ?_ ?_ _) | (with_reducible refine Below.drew ?_) | (with_reducible refine Below.setCell ?_ ?_ _) | (with_reducible refine Below.stepB (by assumption) ?_ ?_) | go_size)⟩
theorem ShallowestOf_yes (A : Option Addr) (n c : Nat) (f : Nat → DG) (t : Int) (w : World) (hS : SlDG w A n f) (hn : n ≤ 1048576) (hg : goodDAll f n = true) (ht : inB t 0 2 = true) :
    Calls Tryd.prog 23 #[.slice A n c, .int .i64 t] w
    fun e w' => e = .returned (.tuple #[.int .i64 (shalId f t n), .bool (shalOk f t n)]) ∧ Below w.heap.size w w' := by
  have e1 : Hid (shalOk f t n = decide (0 < shalV f t n)) := by show _ = _; simp [shalOk, hg, ht]
  go_enter Tryd.func23, Tryd.ntmps23
  go_wp2_with fail
  refine (AreDangers_any A n c f _ (hS.below (by repeat' (first | (with_reducible exact Below.refl _ _) | (with_reducible assumption) | (with_reducible refine Below.alloc ?_ ?_ _) | (with_reducible refine Below.drew ?_) | (with_reducible refine Below.setCell ?_ ?_ _) | (with_reducible refine Below.stepB (by assumption) ?_ ?_) | go_size))) hn).mono ?_
  rintro e w1 ⟨rfl, hbw1⟩
  obtain ⟨hzw1, hcw1, hfw1⟩ := bfacts hbw1; (try simp at hzw1 hcw1 hfw1); (try (have : w.heap.size < w1.heap.size := by omega)); (try (have : w.heap.size + 1 < w1.heap.size := by omega)); (try (have : w.heap.size + 1 + 1 < w1.heap.size := by omega)); (try (have : w.heap.size + 1 + 1 + 1 < w1.heap.size := by omega))
  go_wp2_with (go_at_call 34; refine (isDangerKind_any _ _).mono ?_; rintro e w' ⟨rfl, rfl⟩)
  go_loopw [6, 7, 21] (fun v6 v7 vc wr => ∃ (k : Nat) (i l : Int), k ≤ n ∧ vc = .int .i64 k ∧ v6 = .int .i64 i ∧ v7 = .int .i64 l ∧ i = idAt f (shalV f t k) ∧ l = leastAt f (shalV f t k) ∧ Below w.heap.size w wr) (fun _ _ vc _ => n - (intOf vc).toNat)
  case atStart => exact ⟨0, 0, 0, Nat.zero_le _, rfl, rfl, rfl, rfl, rfl, by repeat' (first | (with_reducible exact Below.refl _ _) | (with_reducible assumption) | (with_reducible refine Below.alloc ?_ ?_ _) | (with_reducible refine Below.drew ?_) | (with_reducible refine Below.setCell ?_ ?_ _) | (with_reducible refine Below.stepB (by assumption) ?_ ?_) | go_size)⟩
  case round =>
    obtain ⟨k, i, l, hk, rfl, rfl, rfl, hi, hl, hbr⟩ := hrel
    have hzr := hbr.size
    have hle := shalV_le f t k
    have hI : (shalV f t k = 0 → i = 0) ∧ (0 < shalV f t k → 0 < i ∧ l = safeV (f (shalV f t k - 1))) := by
      refine ⟨fun h => by rw [hi, h]; rfl, fun h => ?_⟩
      have hb := okD_bd (goodD_lt (goodDAll_iff.1 hg).1 (shalV f t k - 1) (by omega))
      rw [hi, hl, idAt, leastAt, if_neg (by omega), if_neg (by omega)]
      exact ⟨by omega, rfl⟩
    have HI := Lib.hid hI
    have Hi := Lib.hid hi
    have Hl := Lib.hid hl
    clear hI hi hl
    by_cases hlt : k < n
    · have hok := goodD_lt (goodDAll_iff.1 hg).1 k hlt
      obtain ⟨b, off, rfl, hbl, hbl2, c0, c1, c2, c3, c4, c5, c6, _⟩ := hS.at hbr hlt
      go_wp2_with fail
      refine (safeOver_any (f k) _ hok).mono ?_
      rintro e w3 ⟨rfl, hbw3⟩
      obtain ⟨hzw3, hcw3, hfw3⟩ := bfacts hbw3; (try simp at hzw3 hcw3 hfw3); (try (have : w.heap.size < w3.heap.size := by omega)); (try (have : w.heap.size + 1 < w3.heap.size := by omega)); (try (have : w.heap.size + 1 + 1 < w3.heap.size := by omega)); (try (have : w.heap.size + 1 + 1 + 1 < w3.heap.size := by omega))
      by_cases hkk : (f k).kind = t
      · by_cases hz : i = 0
        · have hs : shalV f t k = 0 := by
            have := HI.out
            omega
          have HS1 := Lib.hid (shalV_hit hkk (.inl hs))
          clear hs
          go_wp2
          go_roundw
          case rel => exact ⟨k + 1, (f k).id, safeV (f k), by omega, by go_num, rfl, rfl, by rw [HS1.out]; rfl, by rw [HS1.out]; rfl, by repeat' (first | (with_reducible exact Below.refl _ _) | (with_reducible assumption) | (with_reducible refine Below.alloc ?_ ?_ _) | (with_reducible refine Below.drew ?_) | (with_reducible refine Below.setCell ?_ ?_ _) | (with_reducible refine Below.stepB (by assumption) ?_ ?_) | go_size)⟩
          case measure => simp [intOf]; omega
        · have hs : 0 < shalV f t k := by
            have := HI.out
            omega
          have hl2 := (HI.out.2 hs).2
          by_cases hq : safeV (f k) < l
          · have HS1 := Lib.hid (shalV_hit hkk (.inr (by rw [← hl2]; exact hq)))
            clear hl2
            go_wp2
            go_roundw
            case rel => exact ⟨k + 1, (f k).id, safeV (f k), by omega, by go_num, rfl, rfl, by rw [HS1.out]; rfl, by rw [HS1.out]; rfl, by repeat' (first | (with_reducible exact Below.refl _ _) | (with_reducible assumption) | (with_reducible refine Below.alloc ?_ ?_ _) | (with_reducible refine Below.drew ?_) | (with_reducible refine Below.setCell ?_ ?_ _) | (with_reducible refine Below.stepB (by assumption) ?_ ?_) | go_size)⟩
            case measure => simp [intOf]; omega
          · have HS1 := Lib.hid (shalV_miss (f := f) (t := t) (k := k) (by rw [← hl2]; omega))
            clear hl2
            have hq2 : l ≤ safeV (f k) := by omega
            go_wp2
            · rename_i h
              simp [hz] at h
              omega
            go_roundw
            case rel => exact ⟨k + 1, i, l, by omega, by go_num, rfl, rfl, by rw [HS1.out]; exact Hi.out, by rw [HS1.out]; exact Hl.out, by repeat' (first | (with_reducible exact Below.refl _ _) | (with_reducible assumption) | (with_reducible refine Below.alloc ?_ ?_ _) | (with_reducible refine Below.drew ?_) | (with_reducible refine Below.setCell ?_ ?_ _) | (with_reducible refine Below.stepB (by assumption) ?_ ?_) | go_size)⟩
            case measure => simp [intOf]; omega
      · have HS1 := Lib.hid (shalV_miss (f := f) (t := t) (k := k) (fun h => hkk h.1))
        go_wp2
        go_roundw
        case rel => exact ⟨k + 1, i, l, by omega, by go_num, rfl, rfl, by rw [HS1.out]; exact Hi.out, by rw [HS1.out]; exact Hl.out, by repeat' (first | (with_reducible exact Below.refl _ _) | (with_reducible assumption) | (with_reducible refine Below.alloc ?_ ?_ _) | (with_reducible refine Below.drew ?_) | (with_reducible refine Below.setCell ?_ ?_ _) | (with_reducible refine Below.stepB (by assumption) ?_ ?_) | go_size)⟩
        case measure => simp [intOf]; omega
    · obtain rfl : k = n := by omega
      go_wp2
      go_ret2
      refine ⟨?_, by repeat' (first | (with_reducible exact Below.refl _ _) | (with_reducible assumption) | (with_reducible refine Below.alloc ?_ ?_ _) | (with_reducible refine Below.drew ?_) | (with_reducible refine Below.setCell ?_ ?_ _) | (with_reducible refine Below.stepB (by assumption) ?_ ?_) | go_size)⟩
      have h1 := HI.out
      have h2 := Hi.out
      rw [shalId, e1.out]
      rcases Nat.eq_zero_or_pos (shalV f t k) with h | h
      · obtain rfl := h1.1 h
        rw [h]
        rfl
      · have h3 := h1.2 h
        rw [idAt, if_neg (by omega)] at h2
        simp [h, h2] at h3 ⊢
        omega
theorem specShallow_yes (A : Option Addr) (n c : Nat) (f : Nat → DG) (t : Int) (w : World) (hS : SlDG w A n f) (hn : n ≤ 1048576) (hg : goodDAll f n = true) (ht : inB t 0 2 = true) :
    Calls Tryd.prog 24 #[.slice A n c, .int .i64 t] w
    fun e w' => e = .returned (.tuple #[.int .i64 (shalId f t n), .bool (shalOk f t n)]) ∧ Below w.heap.size w w' := by
  have e1 : Hid (shalOk f t n = decide (0 < shalV f t n)) := by show _ = _; simp [shalOk, hg, ht]
  go_enter Tryd.func24, Tryd.ntmps24
  go_wp2_with fail
  refine (l17Good_any A n c f _ (hS.below (by repeat' (first | (with_reducible exact Below.refl _ _) | (with_reducible assumption) | (with_reducible refine Below.alloc ?_ ?_ _) | (with_reducible refine Below.drew ?_) | (with_reducible refine Below.setCell ?_ ?_ _) | (with_reducible refine Below.stepB (by assumption) ?_ ?_) | go_size))) hn).mono ?_
  rintro e w1 ⟨rfl, hbw1⟩
  obtain ⟨hzw1, hcw1, hfw1⟩ := bfacts hbw1; (try simp at hzw1 hcw1 hfw1); (try (have : w.heap.size < w1.heap.size := by omega)); (try (have : w.heap.size + 1 < w1.heap.size := by omega)); (try (have : w.heap.size + 1 + 1 < w1.heap.size := by omega)); (try (have : w.heap.size + 1 + 1 + 1 < w1.heap.size := by omega))
  go_wp2_with (go_at_call 49; refine (l17Kind_any _ _).mono ?_; rintro e w' ⟨rfl, rfl⟩)
  go_loopw [6, 7] (fun v6 vc wr => ∃ (k m : Nat), k ≤ n ∧ vc = .int .i64 k ∧ m = shalV f t k ∧ v6 = .int .i64 ((m : Int) - 1) ∧ Below w.heap.size w wr) (fun _ vc _ => n - (intOf vc).toNat)
  case atStart => exact ⟨0, 0, Nat.zero_le _, rfl, rfl, rfl, by repeat' (first | (with_reducible exact Below.refl _ _) | (with_reducible assumption) | (with_reducible refine Below.alloc ?_ ?_ _) | (with_reducible refine Below.drew ?_) | (with_reducible refine Below.setCell ?_ ?_ _) | (with_reducible refine Below.stepB (by assumption) ?_ ?_) | go_size)⟩
  case round =>
    obtain ⟨k, m, hk, rfl, hm, rfl, hbr⟩ := hrel
    have hzr := hbr.size
    have hle := shalV_le f t k
    by_cases hlt : k < n
    · have hok := goodD_lt (goodDAll_iff.1 hg).1 k hlt
      obtain ⟨b, off, rfl, hbl, hbl2, c0, c1, c2, c3, c4, c5, c6, CALL⟩ := hS.at hbr hlt
      by_cases hkk : (f k).kind = t
      · by_cases hz : m = 0
        · subst hz
          have HS1 := Lib.hid (shalV_hit hkk (.inl hm.symm))
          clear hm hle
          go_wp2
          refine wp_region_later (by kernel_rfl) (by kernel_rfl) (fun hlx => ?_)
          repeat (go_big_quiet_step (fail))
          refine wpQuiet_nil ?_
          clear hlx
          intro w3 hbw3
          obtain ⟨hzw3, hcw3, hfw3⟩ := bfacts hbw3; (try simp at hzw3 hcw3 hfw3); (try (have : w.heap.size < w3.heap.size := by omega)); (try (have : w.heap.size + 1 < w3.heap.size := by omega)); (try (have : w.heap.size + 1 + 1 < w3.heap.size := by omega)); (try (have : w.heap.size + 1 + 1 + 1 < w3.heap.size := by omega))
          go_wp2
          go_roundw
          case rel => exact ⟨k + 1, k + 1, by omega, by go_num, HS1.out.symm, by congr 1; omega, by repeat' (first | (with_reducible exact Below.refl _ _) | (with_reducible assumption) | (with_reducible refine Below.alloc ?_ ?_ _) | (with_reducible refine Below.drew ?_) | (with_reducible refine Below.setCell ?_ ?_ _) | (with_reducible refine Below.stepB (by assumption) ?_ ?_) | go_size)⟩
          case measure => simp [intOf]; omega
        · obtain ⟨j, rfl⟩ : ∃ j, m = j + 1 := ⟨m - 1, by omega⟩
          have hok2 := goodD_lt (goodDAll_iff.1 hg).1 j (by omega)
          have hj : j < n := by omega
          have d0 : wr.cell? ⟨b, off + j * 7, none⟩ = some (.int .i64 (f j).id) := CALL.out j 0 hj (by decide)
          have d1 : wr.cell? ⟨b, off + j * 7 + 1, none⟩ = some (.int .i64 (f j).kind) := CALL.out j 1 hj (by decide)
          have d2 : wr.cell? ⟨b, off + j * 7 + 2, none⟩ = some (.int .i64 (f j).x) := CALL.out j 2 hj (by decide)
          have d3 : wr.cell? ⟨b, off + j * 7 + 3, none⟩ = some (.int .i64 (f j).y) := CALL.out j 3 hj (by decide)
          have d4 : wr.cell? ⟨b, off + j * 7 + 4, none⟩ = some (.int .i64 (f j).least) := CALL.out j 4 hj (by decide)
          have d5 : wr.cell? ⟨b, off + j * 7 + 5, none⟩ = some (.int .i64 (f j).quality) := CALL.out j 5 hj (by decide)
          have d6 : wr.cell? ⟨b, off + j * 7 + 6, none⟩ = some (.int .i64 (f j).seen) := CALL.out j 6 hj (by decide)
          have hmm : ((j + 1 : Nat) : Int) - 1 = (j : Int) := by omega
          rw [hmm]
          have HM := Lib.hid hm
          clear hm
          have HSJ : Hid (safeV (f j) = safeV (f (shalV f t k - 1))) := by show _ = _; rw [← HM.out]; rfl
          have HCK : Hid (∀ W : World, Calls Tryd.prog 32 #[.agg #[.int .i64 (f k).id, .int .i64 t, .int .i64 (f k).x, .int .i64 (f k).y, .int .i64 (f k).least, .int .i64 (f k).quality, .int .i64 (f k).seen]] W
              fun e w' => e = .returned (.int .i64 (safeV (f k))) ∧ Below W.heap.size W w') := fun W => by
            have := l17Safe_any (f k) W hok
            rwa [hkk] at this
          have hj0 : ¬ ((j : Int) < 0) := by omega
          have hj1 : decide ((j : Int) < 0) = false := decide_eq_false hj0
          go_wp2
          refine wp_region_later (by kernel_rfl) (by kernel_rfl) (fun hlx => ?_)
          repeat (go_big_quiet_step ((first | (go_at_call 32; with_reducible exact Later.call (HCK.out _)) | (go_at_call 32; exact Later.call (l17Safe_any (f j) _ hok2)))))
          refine wpQuiet_nil ?_
          clear hlx
          intro w3 hbw3
          obtain ⟨hzw3, hcw3, hfw3⟩ := bfacts hbw3; (try simp at hzw3 hcw3 hfw3); (try (have : w.heap.size < w3.heap.size := by omega)); (try (have : w.heap.size + 1 < w3.heap.size := by omega)); (try (have : w.heap.size + 1 + 1 < w3.heap.size := by omega)); (try (have : w.heap.size + 1 + 1 + 1 < w3.heap.size := by omega))
          by_cases hq : safeV (f k) < safeV (f j)
          · have HS1 := Lib.hid (shalV_hit hkk (.inr (by rw [← HSJ.out]; exact hq)))
            go_wp2
            go_roundw
            case rel => exact ⟨k + 1, k + 1, by omega, by go_num, HS1.out.symm, by congr 1; omega, by repeat' (first | (with_reducible exact Below.refl _ _) | (with_reducible assumption) | (with_reducible refine Below.alloc ?_ ?_ _) | (with_reducible refine Below.drew ?_) | (with_reducible refine Below.setCell ?_ ?_ _) | (with_reducible refine Below.stepB (by assumption) ?_ ?_) | go_size)⟩
            case measure => simp [intOf]; omega
          · have HS1 := Lib.hid (shalV_miss (f := f) (t := t) (k := k) (by rw [← HSJ.out]; rw [← HM.out]; omega))
            have hq2 : safeV (f j) ≤ safeV (f k) := by omega
            go_wp2
            go_roundw
            case rel => exact ⟨k + 1, j + 1, by omega, by go_num, by rw [HS1.out]; exact HM.out, by congr 1; omega, by repeat' (first | (with_reducible exact Below.refl _ _) | (with_reducible assumption) | (with_reducible refine Below.alloc ?_ ?_ _) | (with_reducible refine Below.drew ?_) | (with_reducible refine Below.setCell ?_ ?_ _) | (with_reducible refine Below.stepB (by assumption) ?_ ?_) | go_size)⟩
            case measure => simp [intOf]; omega
      · have HS1 := Lib.hid (shalV_miss (f := f) (t := t) (k := k) (fun h => hkk h.1))
        have HM := Lib.hid hm
        clear hm
        have hkb : ((f k).kind == t) = false := by simpa using hkk
        go_wp2
        refine wp_region_later (by kernel_rfl) (by kernel_rfl) (fun hlx => ?_)
        repeat (go_big_quiet_step (fail))
        refine wpQuiet_nil ?_
        clear hlx
        intro w3 hbw3
        obtain ⟨hzw3, hcw3, hfw3⟩ := bfacts hbw3; (try simp at hzw3 hcw3 hfw3); (try (have : w.heap.size < w3.heap.size := by omega)); (try (have : w.heap.size + 1 < w3.heap.size := by omega)); (try (have : w.heap.size + 1 + 1 < w3.heap.size := by omega)); (try (have : w.heap.size + 1 + 1 + 1 < w3.heap.size := by omega))
        go_wp2
        go_roundw
        case rel => exact ⟨k + 1, m, by omega, by go_num, by rw [HS1.out]; exact HM.out, rfl, by repeat' (first | (with_reducible exact Below.refl _ _) | (with_reducible assumption) | (with_reducible refine Below.alloc ?_ ?_ _) | (with_reducible refine Below.drew ?_) | (with_reducible refine Below.setCell ?_ ?_ _) | (with_reducible refine Below.stepB (by assumption) ?_ ?_) | go_size)⟩
        case measure => simp [intOf]; omega
    · obtain rfl : k = n := by omega
      by_cases hz : m = 0
      · subst hz
        have HM := Lib.hid hm
        clear hm
        go_wp2
        go_ret2
        have h0 : shalOk f t k = false := by rw [e1.out, ← HM.out]; rfl
        refine ⟨?_, by repeat' (first | (with_reducible exact Below.refl _ _) | (with_reducible assumption) | (with_reducible refine Below.alloc ?_ ?_ _) | (with_reducible refine Below.drew ?_) | (with_reducible refine Below.setCell ?_ ?_ _) | (with_reducible refine Below.stepB (by assumption) ?_ ?_) | go_size)⟩
        simp [shalId, h0]
      · obtain ⟨j, rfl⟩ : ∃ j, m = j + 1 := ⟨m - 1, by omega⟩
        have hj : j < k := by omega
        obtain ⟨b, off, rfl, hbl, hbl2, c0, c1, c2, c3, c4, c5, c6, CALL⟩ := hS.at hbr hj
        have hmm : ((j + 1 : Nat) : Int) - 1 = (j : Int) := by omega
        rw [hmm]
        have HM := Lib.hid hm
        clear hm
        go_wp2
        go_ret2
        have h0 : shalOk f t k = true := by rw [e1.out, ← HM.out]; simp
        refine ⟨?_, by repeat' (first | (with_reducible exact Below.refl _ _) | (with_reducible assumption) | (with_reducible refine Below.alloc ?_ ?_ _) | (with_reducible refine Below.drew ?_) | (with_reducible refine Below.setCell ?_ ?_ _) | (with_reducible refine Below.stepB (by assumption) ?_ ?_) | go_size)⟩
        simp [shalId, h0, ← HM.out]
theorem ShallowestOf_any (A : Option Addr) (n c : Nat) (f : Nat → DG) (t : Int) (w : World) (hS : SlDG w A n f) (hn : n ≤ 1048576) :
    Calls Tryd.prog 23 #[.slice A n c, .int .i64 t] w
    fun e w' => e = .returned (.tuple #[.int .i64 (shalId f t n), .bool (shalOk f t n)]) ∧ Below w.heap.size w w' := by
  by_cases h : goodDAll f n = true ∧ inB t 0 2 = true
  · exact ShallowestOf_yes A n c f t w hS hn h.1 h.2
  · exact ShallowestOf_no A n c f t w hS hn h
theorem specShallow_any (A : Option Addr) (n c : Nat) (f : Nat → DG) (t : Int) (w : World) (hS : SlDG w A n f) (hn : n ≤ 1048576) :
    Calls Tryd.prog 24 #[.slice A n c, .int .i64 t] w
    fun e w' => e = .returned (.tuple #[.int .i64 (shalId f t n), .bool (shalOk f t n)]) ∧ Below w.heap.size w w' := by
  by_cases h : goodDAll f n = true ∧ inB t 0 2 = true
  · exact specShallow_yes A n c f t w hS hn h.1 h.2
  · exact specShallow_no A n c f t w hS hn h
end Go.Proofs.YtclcgckledbpfaaDoor
