/- Contracts: the pairs of dangers of one kind that are close: the program's and the reference's. -/
import Derived.Test.YtclcgckledbpfaaDangerI
namespace Go.Proofs.Ytclcgckledbpfaa
open Go.RowKit
def closeP (f : Nat → DG) (far : Int) (i j : Nat) : Bool := decide ((f i).kind = (f j).kind) && decide (sqD (f i).x (f i).y (f j).x (f j).y ≤ far * far)
theorem blk_newR {g : Nat} (w : World) (t : TypeId) (cs : Array Value) (hg : g = w.heap.size) : Blk (w.alloc (.cells cs t)) g t cs := by
  subst hg
  exact Blk.new w t cs
/-- the pairs of i with i + 1 .. i + k -/
def pairsRow (f : Nat → DG) (far : Int) (i : Nat) : Nat → List (Int × Int)
  | 0 => []
  | k + 1 => pairsRow f far i k ++ (if closeP f far i (i + 1 + k) = true then [((f i).id, (f (i + 1 + k)).id)] else [])
def pairsTo (f : Nat → DG) (far : Int) (n : Nat) : Nat → List (Int × Int)
  | 0 => []
  | i + 1 => pairsTo f far n i ++ pairsRow f far i (n - (i + 1))
/-- those of the rows ahead of i, and of i with i + 1 .. i + j -/
def pairsAt (f : Nat → DG) (far : Int) (n i j : Nat) : List (Int × Int) := pairsTo f far n i ++ pairsRow f far i j
theorem pairsAt_zero (f : Nat → DG) (far : Int) (n i : Nat) : pairsAt f far n i 0 = pairsTo f far n i := by rw [pairsAt, pairsRow, List.append_nil]
theorem pairsAt_last (f : Nat → DG) (far : Int) (n i : Nat) : pairsTo f far n (i + 1) = pairsAt f far n i (n - (i + 1)) := rfl
theorem pairsAt_hit {f : Nat → DG} {far : Int} {n i j : Nat} (h : closeP f far i (i + 1 + j) = true) : pairsAt f far n i (j + 1) = pairsAt f far n i j ++ [((f i).id, (f (i + 1 + j)).id)] := by rw [pairsAt, pairsRow, if_pos h, pairsAt, List.append_assoc]
theorem pairsAt_miss {f : Nat → DG} {far : Int} {n i j : Nat} (h : closeP f far i (i + 1 + j) = false) : pairsAt f far n i (j + 1) = pairsAt f far n i j := by rw [pairsAt, pairsRow, h, pairsAt]; simp
theorem pairsRow_len (f : Nat → DG) (far : Int) (i : Nat) : ∀ k, (pairsRow f far i k).length ≤ k
  | 0 => by simp [pairsRow]
  | k + 1 => by
    have := pairsRow_len f far i k
    unfold pairsRow
    split <;> simp <;> omega
theorem pairsTo_len (f : Nat → DG) (far : Int) (n : Nat) : ∀ i, (pairsTo f far n i).length ≤ i * n
  | 0 => by simp [pairsTo]
  | i + 1 => by
    have h1 := pairsTo_len f far n i
    have h2 := pairsRow_len f far i (n - (i + 1))
    unfold pairsTo
    rw [List.length_append, Nat.add_mul, Nat.one_mul]
    omega
theorem pairsAt_len {f : Nat → DG} {far : Int} {n i j : Nat} (h : n ≤ 10) (hi : i ≤ n) (hj : j ≤ n) : (pairsAt f far n i j).length ≤ 1048576 := by
  have h1 := pairsTo_len f far n i
  have h2 := pairsRow_len f far i j
  have h3 : i * n ≤ 10 * 10 := Nat.mul_le_mul (by omega) h
  rw [pairsAt, List.length_append]
  omega
def pairsOk (f : Nat → DG) (far : Int) (n : Nat) : Bool := goodDAll f n && inB far 0 2000
def pairsL (f : Nat → DG) (far : Int) (n : Nat) : List (Int × Int) := if pairsOk f far n = true then pairsTo f far n n else []
theorem ClosePairs_no (A : Option Addr) (n c : Nat) (f : Nat → DG) (far : Int) (w : World) (hS : SlDG w A n f) (hn : n ≤ 1048576) (h : pairsOk f far n = false) :
    Calls Try.prog 37 #[.slice A n c, .int .i64 far] w fun e w' => RowsOut w (pairsL f far n) (pairsOk f far n) e w' := by
  have hl : pairsL f far n = [] := by rw [pairsL, h]; rfl
  have hA := fun W (hb : Below w.heap.size w W) => AreDangers_any A n c f W (hS.below hb) hn
  rw [hl, h]
  unfold pairsOk at h
  generalize goodDAll f n = r at h hA
  have HA := Lib.hid hA
  clear hA hS hl
  rcases Bool.eq_false_or_eq_true (inB far 0 2000) with hf | hf
  · obtain rfl : r = false := by simpa [hf] using h
    clear h
    go_enter Try.func37, Try.ntmps37
    go_wp2_with fail
    refine (HA.out _ (by repeat' (first | (with_reducible exact Below.refl _ _) | (with_reducible assumption) | (with_reducible refine Below.alloc ?_ ?_ _) | (with_reducible refine Below.drew ?_) | (with_reducible refine Below.setCell ?_ ?_ _) | (with_reducible refine Below.stepB (by assumption) ?_ ?_) | go_size))).mono ?_
    rintro e w1 ⟨rfl, hbw1⟩
    obtain ⟨hzw1, hcw1, hfw1⟩ := bfacts hbw1; (try simp at hzw1 hcw1 hfw1); (try (have : w.heap.size < w1.heap.size := by omega)); (try (have : w.heap.size + 1 < w1.heap.size := by omega)); (try (have : w.heap.size + 1 + 1 < w1.heap.size := by omega)); (try (have : w.heap.size + 1 + 1 + 1 < w1.heap.size := by omega))
    go_wp2_with (go_at_call 70; refine (isFar_any _ _).mono ?_; rintro e w' ⟨rfl, rfl⟩)
    go_ret2
    exact RowsOut.none rfl rfl (by repeat' (first | (with_reducible exact Below.refl _ _) | (with_reducible assumption) | (with_reducible refine Below.alloc ?_ ?_ _) | (with_reducible refine Below.drew ?_) | (with_reducible refine Below.setCell ?_ ?_ _) | (with_reducible refine Below.stepB (by assumption) ?_ ?_) | go_size))
  · clear h
    cases r
    all_goals
      go_enter Try.func37, Try.ntmps37
      go_wp2_with fail
      refine (HA.out _ (by repeat' (first | (with_reducible exact Below.refl _ _) | (with_reducible assumption) | (with_reducible refine Below.alloc ?_ ?_ _) | (with_reducible refine Below.drew ?_) | (with_reducible refine Below.setCell ?_ ?_ _) | (with_reducible refine Below.stepB (by assumption) ?_ ?_) | go_size))).mono ?_
      rintro e w1 ⟨rfl, hbw1⟩
      obtain ⟨hzw1, hcw1, hfw1⟩ := bfacts hbw1; (try simp at hzw1 hcw1 hfw1); (try (have : w.heap.size < w1.heap.size := by omega)); (try (have : w.heap.size + 1 < w1.heap.size := by omega)); (try (have : w.heap.size + 1 + 1 < w1.heap.size := by omega)); (try (have : w.heap.size + 1 + 1 + 1 < w1.heap.size := by omega))
      go_wp2_with (go_at_call 70; refine (isFar_any _ _).mono ?_; rintro e w' ⟨rfl, rfl⟩)
      go_ret2
      exact RowsOut.none rfl rfl (by repeat' (first | (with_reducible exact Below.refl _ _) | (with_reducible assumption) | (with_reducible refine Below.alloc ?_ ?_ _) | (with_reducible refine Below.drew ?_) | (with_reducible refine Below.setCell ?_ ?_ _) | (with_reducible refine Below.stepB (by assumption) ?_ ?_) | go_size))
theorem specClose_no (A : Option Addr) (n c : Nat) (f : Nat → DG) (far : Int) (w : World) (hS : SlDG w A n f) (hn : n ≤ 1048576) (h : pairsOk f far n = false) :
    Calls Try.prog 36 #[.slice A n c, .int .i64 far] w fun e w' => RowsOut w (pairsL f far n) (pairsOk f far n) e w' := by
  have hl : pairsL f far n = [] := by rw [pairsL, h]; rfl
  have hA := fun W (hb : Below w.heap.size w W) => l17Good_any A n c f W (hS.below hb) hn
  rw [hl, h]
  unfold pairsOk at h
  generalize goodDAll f n = r at h hA
  have HA := Lib.hid hA
  clear hA hS hl
  rcases Bool.eq_false_or_eq_true (inB far 0 2000) with hf | hf
  · obtain rfl : r = false := by simpa [hf] using h
    clear h
    go_enter Try.func36, Try.ntmps36
    go_wp2_with fail
    refine (HA.out _ (by repeat' (first | (with_reducible exact Below.refl _ _) | (with_reducible assumption) | (with_reducible refine Below.alloc ?_ ?_ _) | (with_reducible refine Below.drew ?_) | (with_reducible refine Below.setCell ?_ ?_ _) | (with_reducible refine Below.stepB (by assumption) ?_ ?_) | go_size))).mono ?_
    rintro e w1 ⟨rfl, hbw1⟩
    obtain ⟨hzw1, hcw1, hfw1⟩ := bfacts hbw1; (try simp at hzw1 hcw1 hfw1); (try (have : w.heap.size < w1.heap.size := by omega)); (try (have : w.heap.size + 1 < w1.heap.size := by omega)); (try (have : w.heap.size + 1 + 1 < w1.heap.size := by omega)); (try (have : w.heap.size + 1 + 1 + 1 < w1.heap.size := by omega))
    go_wp2_with (go_at_call 68; refine (l17Far_any _ _).mono ?_; rintro e w' ⟨rfl, rfl⟩)
    go_ret2
    exact RowsOut.none rfl rfl (by repeat' (first | (with_reducible exact Below.refl _ _) | (with_reducible assumption) | (with_reducible refine Below.alloc ?_ ?_ _) | (with_reducible refine Below.drew ?_) | (with_reducible refine Below.setCell ?_ ?_ _) | (with_reducible refine Below.stepB (by assumption) ?_ ?_) | go_size))
  · clear h
    cases r
    all_goals
      go_enter Try.func36, Try.ntmps36
      go_wp2_with fail
      refine (HA.out _ (by repeat' (first | (with_reducible exact Below.refl _ _) | (with_reducible assumption) | (with_reducible refine Below.alloc ?_ ?_ _) | (with_reducible refine Below.drew ?_) | (with_reducible refine Below.setCell ?_ ?_ _) | (with_reducible refine Below.stepB (by assumption) ?_ ?_) | go_size))).mono ?_
      rintro e w1 ⟨rfl, hbw1⟩
      obtain ⟨hzw1, hcw1, hfw1⟩ := bfacts hbw1; (try simp at hzw1 hcw1 hfw1); (try (have : w.heap.size < w1.heap.size := by omega)); (try (have : w.heap.size + 1 < w1.heap.size := by omega)); (try (have : w.heap.size + 1 + 1 < w1.heap.size := by omega)); (try (have : w.heap.size + 1 + 1 + 1 < w1.heap.size := by omega))
      go_wp2_with (go_at_call 68; refine (l17Far_any _ _).mono ?_; rintro e w' ⟨rfl, rfl⟩)
      go_ret2
      exact RowsOut.none rfl rfl (by repeat' (first | (with_reducible exact Below.refl _ _) | (with_reducible assumption) | (with_reducible refine Below.alloc ?_ ?_ _) | (with_reducible refine Below.drew ?_) | (with_reducible refine Below.setCell ?_ ?_ _) | (with_reducible refine Below.stepB (by assumption) ?_ ?_) | go_size))
set_option maxRecDepth 100000 in
set_option maxHeartbeats 1000000 in
theorem ClosePairs_yes (A : Option Addr) (n : Nat) (f : Nat → DG) (far : Int) (w : World) (hS : SlDG w A n f) (hn : n ≤ 1048576) (hg : goodDAll f n = true) (hf : inB far 0 2000 = true) :
    Calls Try.prog 37 #[.slice A n n, .int .i64 far] w fun e w' => RowsOut w (pairsTo f far n n) true e w' := by
  obtain ⟨hgd, h10⟩ := goodDAll_iff.1 hg
  have hok := Lib.hid (goodD_lt hgd)
  have hA := fun W (hb : Below w.heap.size w W) => AreDangers_any A n n f W (hS.below hb) hn
  rw [hg] at hA
  have HA := Lib.hid hA
  obtain ⟨f1, f2⟩ := inB_iff.1 hf
  obtain ⟨q1, q2⟩ := far_bd hf
  obtain ⟨i0, hi0, hz0, hz1, hz2⟩ := info_parts row_info
  have HS := Lib.hid hS
  clear hA hS hg hgd
  go_enter Try.func37, Try.ntmps37
  go_wp2_with fail
  refine (HA.out _ (by repeat' (first | (with_reducible exact Below.refl _ _) | (with_reducible assumption) | (with_reducible refine Below.alloc ?_ ?_ _) | (with_reducible refine Below.drew ?_) | (with_reducible refine Below.setCell ?_ ?_ _) | (with_reducible refine Below.stepB (by assumption) ?_ ?_) | go_size))).mono ?_
  rintro e w1 ⟨rfl, hbw1⟩
  obtain ⟨hzw1, hcw1, hfw1⟩ := bfacts hbw1; (try simp at hzw1 hcw1 hfw1); (try (have : w.heap.size < w1.heap.size := by omega)); (try (have : w.heap.size + 1 < w1.heap.size := by omega)); (try (have : w.heap.size + 1 + 1 < w1.heap.size := by omega)); (try (have : w.heap.size + 1 + 1 + 1 < w1.heap.size := by omega))
  go_wp2_with (go_at_call 70; refine (isFar_any _ _).mono ?_; rintro e w' ⟨rfl, rfl⟩)
  have hO0 := Lib.hid (RowsIn.empty w1)
  go_loopw [6, 22] (fun v6 v22 wr => ∃ i : Nat, i ≤ n ∧ v22 = .int .i64 i ∧ Hid (RowsIn wr w1.heap.size v6 (pairsTo f far n i)) ∧ Below w.heap.size w wr ∧ w1.heap.size ≤ wr.heap.size) (fun _ v22 _ => n - (intOf v22).toNat)
  case atStart => exact ⟨0, Nat.zero_le _, rfl, hO0.out, by repeat' (first | (with_reducible exact Below.refl _ _) | (with_reducible assumption) | (with_reducible refine Below.alloc ?_ ?_ _) | (with_reducible refine Below.drew ?_) | (with_reducible refine Below.setCell ?_ ?_ _) | (with_reducible refine Below.stepB (by assumption) ?_ ?_) | go_size), by go_size⟩
  case round =>
    clear hO0
    obtain ⟨i, hi, rfl, hO, hbr, hzr1⟩ := hrel
    have hzr := hbr.size
    by_cases hlt : i < n
    · have hoki := Lib.hid (hok.out i hlt)
      obtain ⟨b, off, rfl, hbl, hbl2, c0, c1, c2, c3, c4, c5, c6, -⟩ := HS.out.at hbr hlt
      have HBR := Lib.hid hbr
      clear hbr
      rcases Nat.eq_or_lt_of_le (show i + 1 ≤ n from hlt) with hlast | hlast
      · subst hlast
        go_wp2
        go_loopw [6, 32] (fun v6 v32 wq => v32 = .int .i64 0 ∧ Hid (RowsIn wq w1.heap.size v6 (pairsAt f far (i + 1) i 0)) ∧ Below w1.heap.size wr wq) (fun _ _ _ => 0)
        case atStart => exact ⟨rfl, by rw [pairsAt_zero]; exact hO.out.below (by repeat' (first | (with_reducible exact Below.refl _ _) | (with_reducible assumption) | (with_reducible refine Below.alloc ?_ ?_ _) | (with_reducible refine Below.drew ?_) | (with_reducible refine Below.setCell ?_ ?_ _) | (with_reducible refine Below.stepB (by assumption) ?_ ?_) | go_size)), by repeat' (first | (with_reducible exact Below.refl _ _) | (with_reducible assumption) | (with_reducible refine Below.alloc ?_ ?_ _) | (with_reducible refine Below.drew ?_) | (with_reducible refine Below.setCell ?_ ?_ _) | (with_reducible refine Below.stepB (by assumption) ?_ ?_) | go_size)⟩
        case round =>
          rename World => wq
          obtain ⟨rfl, hQ, hbq⟩ := hrel
          have hzq := hbq.size
          clear hO
          go_wp2
          go_roundw
          case rel => exact ⟨i + 1, by omega, by go_num, by rw [pairsAt_last, Nat.sub_self]; exact hQ, by have := HBR.out; repeat' (first | (with_reducible exact Below.refl _ _) | (with_reducible assumption) | (with_reducible refine Below.alloc ?_ ?_ _) | (with_reducible refine Below.drew ?_) | (with_reducible refine Below.setCell ?_ ?_ _) | (with_reducible refine Below.stepB (by assumption) ?_ ?_) | go_size), by omega⟩
          case measure => simp [intOf]
      · have hne : ¬ n = i + 1 := by omega
        go_wp2
        go_loopw [6, 32] (fun v6 v32 wq => ∃ j : Nat, j ≤ n - (i + 1) ∧ v32 = .int .i64 j ∧ Hid (RowsIn wq w1.heap.size v6 (pairsAt f far n i j)) ∧ Blk wq wr.heap.size 29 (f i).arr ∧ Below w1.heap.size wr wq) (fun _ v32 _ => n - (intOf v32).toNat)
        case atStart => exact ⟨0, Nat.zero_le _, rfl, by rw [pairsAt_zero]; exact hO.out.below (by repeat' (first | (with_reducible exact Below.refl _ _) | (with_reducible assumption) | (with_reducible refine Below.alloc ?_ ?_ _) | (with_reducible refine Below.drew ?_) | (with_reducible refine Below.setCell ?_ ?_ _) | (with_reducible refine Below.stepB (by assumption) ?_ ?_) | go_size)), Blk.new _ _ _, by repeat' (first | (with_reducible exact Below.refl _ _) | (with_reducible assumption) | (with_reducible refine Below.alloc ?_ ?_ _) | (with_reducible refine Below.drew ?_) | (with_reducible refine Below.setCell ?_ ?_ _) | (with_reducible refine Below.stepB (by assumption) ?_ ?_) | go_size)⟩
        case round =>
          rename World => wq
          obtain ⟨j, hj, rfl, hQ, hB, hbq⟩ := hrel
          clear hO
          have hzq := hbq.size
          obtain ⟨A6, c6', hv6⟩ := RowsIn.form hQ.out
          subst hv6
          by_cases hjl : j < n - (i + 1)
          · have hokk := Lib.hid (hok.out (i + 1 + j) (by omega))
            obtain ⟨hl8, a0, a1, a2, a3, a4, a5, a6, hf8⟩ := BlkDG.cells hB
            have HB := Lib.hid hB
            have HBQ := Lib.hid (show Below w.heap.size w wq from by have := HBR.out; repeat' (first | (with_reducible exact Below.refl _ _) | (with_reducible assumption) | (with_reducible refine Below.alloc ?_ ?_ _) | (with_reducible refine Below.drew ?_) | (with_reducible refine Below.setCell ?_ ?_ _) | (with_reducible refine Below.stepB (by assumption) ?_ ?_) | go_size))
            obtain ⟨b', off', hA', _, _, d0, d1, d2, d3, d4, d5, d6, -⟩ := HS.out.at HBQ.out (show i + 1 + j < n by omega)
            obtain ⟨rfl, rfl⟩ : b = b' ∧ off = off' := by simpa using hA'
            have e7 : off + (i + 1 + j) * 7 = off + (i + 1) * 7 + j * 7 := by omega
            rw [e7] at d0 d1 d2 d3 d4 d5 d6
            have hll : (pairsAt f far n i j).length ≤ 1048576 := pairsAt_len h10 (by omega) (by omega)
            clear hB hA' e7 c0 c1 c2 c3 c4 c5 c6
            have hblq : b < wq.heap.size := by omega
            by_cases hk : (f i).kind = (f (i + 1 + j)).kind
            · have hkb : ((f i).kind == (f (i + 1 + j)).kind) = true := by simpa using hk
              have HK := Lib.hid hk
              clear hk
              go_wp2_with fail
              refine (squareOf_any (f i).x (f i).y (f (i + 1 + j)).x (f (i + 1 + j)).y _ (okD_spot hoki.out) (okD_spot hokk.out)).mono ?_
              rintro e w3 ⟨rfl, hbw3⟩
              obtain ⟨hzw3, hcw3, hfw3⟩ := bfacts hbw3; (try simp at hzw3 hcw3 hfw3); (try (have : w.heap.size < w3.heap.size := by omega)); (try (have : w.heap.size + 1 < w3.heap.size := by omega)); (try (have : w.heap.size + 1 + 1 < w3.heap.size := by omega)); (try (have : w.heap.size + 1 + 1 + 1 < w3.heap.size := by omega))
              have hl83 : wr.heap.size < w3.heap.size := by omega
              by_cases hq : sqD (f i).x (f i).y (f (i + 1 + j)).x (f (i + 1 + j)).y ≤ far * far
              · have hcl : closeP f far i (i + 1 + j) = true := by simp [closeP, HK.out, hq]
                have HROW := Lib.hid (pairsAt_hit (n := n) hcl)
                clear hcl
                go_wp2_with (at_builtin; refine wpList_append_row wq _ rfl _ _ 53 rfl w1.heap.size i0 Try.underlying53 hi0 hz0 hz1 hz2 _ _ rfl hQ.out ?_ w3.heap.size (f i).id (f (i + 1 + j)).id ?_ ?_ _ _ rfl ?_ hll ?_ ?_; go_must (focus (repeat' (first | (with_reducible exact Below.refl _ _) | (with_reducible assumption) | (with_reducible refine Below.alloc ?_ ?_ _) | (with_reducible refine Below.drew ?_) | (with_reducible refine Below.setCell ?_ ?_ _) | (with_reducible refine Below.stepB (by assumption) ?_ ?_) | go_size))); go_must (focus omega); go_must (focus exact (blk_newR w3 _ _ rfl).alloc _); go_must (focus (simp [rowV]; done)); go_must (focus omega); intro v9 w4 hO4 hbw4 hkp4; have hB4 := hkp4 _ _ _ (by decide) (show Blk ((w3.alloc (.cells #[.int .i64 (f i).id, .int .i64 (f (i + 1 + j)).id] 3)).alloc (.cells #[.slice (some ⟨w3.heap.size, 0, none⟩) 2 2] 43)) wr.heap.size 29 (f i).arr from ((HB.out.below (B := wq.heap.size) (by repeat' (first | (with_reducible exact Below.refl _ _) | (with_reducible assumption) | (with_reducible refine Below.alloc ?_ ?_ _) | (with_reducible refine Below.drew ?_) | (with_reducible refine Below.setCell ?_ ?_ _) | (with_reducible refine Below.stepB (by assumption) ?_ ?_) | go_size)) hl8).alloc _).alloc _); clear hkp4; have hz4 := hbw4.size; (try simp at hz4))
                go_roundw
                case rel => exact ⟨j + 1, by omega, by go_num, by rw [HROW.out]; exact hO4, hB4, by repeat' (first | (with_reducible exact Below.refl _ _) | (with_reducible assumption) | (with_reducible refine Below.alloc ?_ ?_ _) | (with_reducible refine Below.drew ?_) | (with_reducible refine Below.setCell ?_ ?_ _) | (with_reducible refine Below.stepB (by assumption) ?_ ?_) | go_size)⟩
                case measure => simp [intOf]; omega
              · have hcl : closeP f far i (i + 1 + j) = false := by simp [closeP, hq]
                have HROW := Lib.hid (pairsAt_miss (n := n) hcl)
                clear hcl
                go_wp2
                go_roundw
                case rel => exact ⟨j + 1, by omega, by go_num, by rw [HROW.out]; exact hQ.out.below (by repeat' (first | (with_reducible exact Below.refl _ _) | (with_reducible assumption) | (with_reducible refine Below.alloc ?_ ?_ _) | (with_reducible refine Below.drew ?_) | (with_reducible refine Below.setCell ?_ ?_ _) | (with_reducible refine Below.stepB (by assumption) ?_ ?_) | go_size)), HB.out.below (B := wq.heap.size) (by repeat' (first | (with_reducible exact Below.refl _ _) | (with_reducible assumption) | (with_reducible refine Below.alloc ?_ ?_ _) | (with_reducible refine Below.drew ?_) | (with_reducible refine Below.setCell ?_ ?_ _) | (with_reducible refine Below.stepB (by assumption) ?_ ?_) | go_size)) hl8, by repeat' (first | (with_reducible exact Below.refl _ _) | (with_reducible assumption) | (with_reducible refine Below.alloc ?_ ?_ _) | (with_reducible refine Below.drew ?_) | (with_reducible refine Below.setCell ?_ ?_ _) | (with_reducible refine Below.stepB (by assumption) ?_ ?_) | go_size)⟩
                case measure => simp [intOf]; omega
            · have hcl : closeP f far i (i + 1 + j) = false := by simp [closeP, hk]
              have HROW := Lib.hid (pairsAt_miss (n := n) hcl)
              have hkb : ((f i).kind == (f (i + 1 + j)).kind) = false := by simpa using hk
              clear hcl hk
              go_wp2
              go_roundw
              case rel => exact ⟨j + 1, by omega, by go_num, by rw [HROW.out]; exact hQ.out.below (by repeat' (first | (with_reducible exact Below.refl _ _) | (with_reducible assumption) | (with_reducible refine Below.alloc ?_ ?_ _) | (with_reducible refine Below.drew ?_) | (with_reducible refine Below.setCell ?_ ?_ _) | (with_reducible refine Below.stepB (by assumption) ?_ ?_) | go_size)), HB.out.below (B := wq.heap.size) (by repeat' (first | (with_reducible exact Below.refl _ _) | (with_reducible assumption) | (with_reducible refine Below.alloc ?_ ?_ _) | (with_reducible refine Below.drew ?_) | (with_reducible refine Below.setCell ?_ ?_ _) | (with_reducible refine Below.stepB (by assumption) ?_ ?_) | go_size)) hl8, by repeat' (first | (with_reducible exact Below.refl _ _) | (with_reducible assumption) | (with_reducible refine Below.alloc ?_ ?_ _) | (with_reducible refine Below.drew ?_) | (with_reducible refine Below.setCell ?_ ?_ _) | (with_reducible refine Below.stepB (by assumption) ?_ ?_) | go_size)⟩
              case measure => simp [intOf]; omega
          · obtain rfl : j = n - (i + 1) := by omega
            go_wp2
            go_roundw
            case rel => exact ⟨i + 1, by omega, by go_num, by rw [pairsAt_last]; exact hQ, by have := HBR.out; repeat' (first | (with_reducible exact Below.refl _ _) | (with_reducible assumption) | (with_reducible refine Below.alloc ?_ ?_ _) | (with_reducible refine Below.drew ?_) | (with_reducible refine Below.setCell ?_ ?_ _) | (with_reducible refine Below.stepB (by assumption) ?_ ?_) | go_size), by omega⟩
            case measure => simp [intOf]; omega
    · obtain rfl : i = n := by omega
      obtain ⟨A6, c6, rfl⟩ := RowsIn.form hO.out
      have HO := Lib.hid hO
      clear hO
      go_wp2
      go_ret2
      exact RowsOut.row HO.out.out rfl rfl (by omega) (by repeat' (first | (with_reducible exact Below.refl _ _) | (with_reducible assumption) | (with_reducible refine Below.alloc ?_ ?_ _) | (with_reducible refine Below.drew ?_) | (with_reducible refine Below.setCell ?_ ?_ _) | (with_reducible refine Below.stepB (by assumption) ?_ ?_) | go_size))
set_option maxRecDepth 100000 in
set_option maxHeartbeats 1000000 in
theorem specClose_yes (A : Option Addr) (n c : Nat) (f : Nat → DG) (far : Int) (w : World) (hS : SlDG w A n f) (hn : n ≤ 1048576) (hg : goodDAll f n = true) (hf : inB far 0 2000 = true) :
    Calls Try.prog 36 #[.slice A n c, .int .i64 far] w fun e w' => RowsOut w (pairsTo f far n n) true e w' := by
  obtain ⟨hgd, h10⟩ := goodDAll_iff.1 hg
  have hok := Lib.hid (goodD_lt hgd)
  have hA := fun W (hb : Below w.heap.size w W) => l17Good_any A n c f W (hS.below hb) hn
  rw [hg] at hA
  have HA := Lib.hid hA
  obtain ⟨f1, f2⟩ := inB_iff.1 hf
  obtain ⟨q1, q2⟩ := far_bd hf
  obtain ⟨i0, hi0, hz0, hz1, hz2⟩ := info_parts row_info
  have HS := Lib.hid hS
  clear hA hS hg hgd
  go_enter Try.func36, Try.ntmps36
  go_wp2_with fail
  refine (HA.out _ (by repeat' (first | (with_reducible exact Below.refl _ _) | (with_reducible assumption) | (with_reducible refine Below.alloc ?_ ?_ _) | (with_reducible refine Below.drew ?_) | (with_reducible refine Below.setCell ?_ ?_ _) | (with_reducible refine Below.stepB (by assumption) ?_ ?_) | go_size))).mono ?_
  rintro e w1 ⟨rfl, hbw1⟩
  obtain ⟨hzw1, hcw1, hfw1⟩ := bfacts hbw1; (try simp at hzw1 hcw1 hfw1); (try (have : w.heap.size < w1.heap.size := by omega)); (try (have : w.heap.size + 1 < w1.heap.size := by omega)); (try (have : w.heap.size + 1 + 1 < w1.heap.size := by omega)); (try (have : w.heap.size + 1 + 1 + 1 < w1.heap.size := by omega))
  go_wp2_with (go_at_call 68; refine (l17Far_any _ _).mono ?_; rintro e w' ⟨rfl, rfl⟩)
  have hO0 := Lib.hid ((RowsIn.empty w).below hbw1)
  go_loopw [6, 7] (fun v6 v7 wr => ∃ i : Nat, i ≤ n ∧ v7 = .int .i64 i ∧ Hid (RowsIn wr w.heap.size v6 (pairsTo f far n i)) ∧ Below w.heap.size w wr) (fun _ v7 _ => n - (intOf v7).toNat)
  case atStart => exact ⟨0, Nat.zero_le _, rfl, hO0.out, by repeat' (first | (with_reducible exact Below.refl _ _) | (with_reducible assumption) | (with_reducible refine Below.alloc ?_ ?_ _) | (with_reducible refine Below.drew ?_) | (with_reducible refine Below.setCell ?_ ?_ _) | (with_reducible refine Below.stepB (by assumption) ?_ ?_) | go_size)⟩
  case round =>
    clear hO0
    obtain ⟨i, hi, rfl, hO, hbr⟩ := hrel
    have hzr := hbr.size
    by_cases hlt : i < n
    · have hoki := Lib.hid (hok.out i hlt)
      go_wp2
      go_loopw [6, 8] (fun v6 v8 wq => ∃ j : Nat, j ≤ n - (i + 1) ∧ v8 = .int .i64 ((i + 1 + j : Nat) : Int) ∧ Hid (RowsIn wq w.heap.size v6 (pairsAt f far n i j)) ∧ Below w.heap.size w wq) (fun _ v8 _ => n - (intOf v8).toNat)
      case atStart => exact ⟨0, Nat.zero_le _, by go_num, by rw [pairsAt_zero]; exact hO.out, hbr⟩
      case round =>
        rename World => wq
        obtain ⟨j, hj, rfl, hQ, hbq⟩ := hrel
        clear hO hbr
        have hzq := hbq.size
        obtain ⟨A6, c6', hv6⟩ := RowsIn.form hQ.out
        subst hv6
        by_cases hjl : j < n - (i + 1)
        · have hokk := Lib.hid (hok.out (i + 1 + j) (by omega))
          obtain ⟨b, off, rfl, hbl, hbl2, c0, c1, c2, c3, c4, c5, c6, -⟩ := HS.out.at hbq hlt
          obtain ⟨b', off', hA', _, _, d0, d1, d2, d3, d4, d5, d6, -⟩ := HS.out.at hbq (show i + 1 + j < n by omega)
          obtain ⟨rfl, rfl⟩ : b = b' ∧ off = off' := by simpa using hA'
          have hll : (pairsAt f far n i j).length ≤ 1048576 := pairsAt_len h10 (by omega) (by omega)
          have hkn : ((i + 1 + j : Nat) : Int) < (n : Int) := by omega
          have hkp : (0 : Int) ≤ ((i + 1 + j : Nat) : Int) := by omega
          have hin : (i : Int) < (n : Int) := by omega
          have hip : (0 : Int) ≤ (i : Int) := by omega
          clear hA'
          obtain ⟨k, hkk⟩ : ∃ k, i + 1 + j = k := ⟨_, rfl⟩
          rw [hkk] at d0 d1 d2 d3 d4 d5 d6 hkn hkp hokk ⊢
          have HKK := Lib.hid hkk
          clear hkk
          by_cases hk : (f i).kind = (f k).kind
          · have hkb : ((f i).kind == (f k).kind) = true := by simpa using hk
            have HK := Lib.hid hk
            clear hk
            go_wp2
            refine wp_region_later (by kernel_rfl) (by kernel_rfl) (fun hlx => ?_)
            repeat (go_big_quiet_step ((go_at_call 69; exact Later.call (l17Square_any (f i).x (f i).y (f k).x (f k).y _ (okD_spot hoki.out) (okD_spot hokk.out)))))
            refine wpQuiet_nil ?_
            clear hlx
            intro w3 hbw3
            obtain ⟨hzw3, hcw3, hfw3⟩ := bfacts hbw3; (try simp at hzw3 hcw3 hfw3); (try (have : w.heap.size < w3.heap.size := by omega)); (try (have : w.heap.size + 1 < w3.heap.size := by omega)); (try (have : w.heap.size + 1 + 1 < w3.heap.size := by omega)); (try (have : w.heap.size + 1 + 1 + 1 < w3.heap.size := by omega))
            by_cases hq : sqD (f i).x (f i).y (f k).x (f k).y ≤ far * far
            · have hcl : closeP f far i (i + 1 + j) = true := by rw [HKK.out]; simp [closeP, HK.out, hq]
              have HROW := Lib.hid (pairsAt_hit (n := n) hcl)
              clear hcl
              have hblw3 : b < w3.heap.size := by omega
              have x0 : w3.cell? ⟨b, off + i * 7, none⟩ = some (.int .i64 (f i).id) := (hcw3 _ _ hbl2).trans c0
              have y0 : w3.cell? ⟨b, off + k * 7, none⟩ = some (.int .i64 (f k).id) := (hcw3 _ _ hbl2).trans d0
              clear c0 c1 c2 c3 c4 c5 c6 d0 d1 d2 d3 d4 d5 d6 hcw3
              go_wp2
              go_region_held3 (fun w' => w'.cell? ⟨b, off + i * 7, none⟩ = some (.int .i64 (f i).id) ∧ w'.cell? ⟨b, off + k * 7, none⟩ = some (.int .i64 (f k).id)) (first | go_keep | ((try dsimp only); (repeat' apply And.intro) <;> go_keep)) ((refine step_append_row (w0 := wq) (by rfl) _ _ 53 (by rfl) w.heap.size i0 Try.underlying53 hi0 hz0 hz1 hz2 _ (pairsAt f far n i j) (by rfl) hQ.out ?_ w3.heap.size (f i).id (f k).id ?_ ?_ ⟨w3.heap.size + 1, 0, none⟩ 1 (by rfl) ?_ hll ?_ ?_; go_loud (focus exact ((hbw3.alloc hzw3 _).alloc (by simp; omega) _).drew); go_loud (focus omega); go_loud (focus exact (((blk_newR w3 _ _ rfl).alloc _).drew)); go_loud (focus (simp [rowV]; done)); go_loud (focus omega); intro v9 w4 hO4 hbw4 hkp4; clear hkp4; have hz4 := hbw4.size; (try simp at hz4); have g4 : w4.cell? ⟨b, off + i * 7, none⟩ = some (.int .i64 (f i).id) := (hbw4.cell (p := ⟨b, off + i * 7, none⟩) hbl).trans ((((((Below.refl w3.heap.size w3).alloc (Nat.le_refl _) _).alloc (by simp) _).drew).cell (p := ⟨b, off + i * 7, none⟩) hblw3).trans x0); have g5 : w4.cell? ⟨b, off + k * 7, none⟩ = some (.int .i64 (f k).id) := (hbw4.cell (p := ⟨b, off + k * 7, none⟩) hbl).trans ((((((Below.refl w3.heap.size w3).alloc (Nat.le_refl _) _).alloc (by simp) _).drew).cell (p := ⟨b, off + k * 7, none⟩) hblw3).trans y0)))
              go_wp2
              go_roundw
              case rel => exact ⟨j + 1, by omega, by rw [← HKK.out]; go_num, by rw [HROW.out, HKK.out]; exact hO4, by repeat' (first | (with_reducible exact Below.refl _ _) | (with_reducible assumption) | (with_reducible refine Below.alloc ?_ ?_ _) | (with_reducible refine Below.drew ?_) | (with_reducible refine Below.setCell ?_ ?_ _) | (with_reducible refine Below.stepB (by assumption) ?_ ?_) | go_size)⟩
              case measure => simp [intOf]; omega
            · have hcl : closeP f far i (i + 1 + j) = false := by rw [HKK.out]; simp [closeP, hq]
              have HROW := Lib.hid (pairsAt_miss (n := n) hcl)
              clear hcl
              go_wp2
              go_roundw
              case rel => exact ⟨j + 1, by omega, by rw [← HKK.out]; go_num, by rw [HROW.out]; exact hQ.out.below (by repeat' (first | (with_reducible exact Below.refl _ _) | (with_reducible assumption) | (with_reducible refine Below.alloc ?_ ?_ _) | (with_reducible refine Below.drew ?_) | (with_reducible refine Below.setCell ?_ ?_ _) | (with_reducible refine Below.stepB (by assumption) ?_ ?_) | go_size)), by repeat' (first | (with_reducible exact Below.refl _ _) | (with_reducible assumption) | (with_reducible refine Below.alloc ?_ ?_ _) | (with_reducible refine Below.drew ?_) | (with_reducible refine Below.setCell ?_ ?_ _) | (with_reducible refine Below.stepB (by assumption) ?_ ?_) | go_size)⟩
              case measure => simp [intOf]; omega
          · have hcl : closeP f far i (i + 1 + j) = false := by rw [HKK.out]; simp [closeP, hk]
            have HROW := Lib.hid (pairsAt_miss (n := n) hcl)
            have hkb : ((f i).kind == (f k).kind) = false := by simpa using hk
            clear hcl hk
            go_wp2
            refine wp_region_later (by kernel_rfl) (by kernel_rfl) (fun hlx => ?_)
            repeat (go_big_quiet_step (fail))
            refine wpQuiet_nil ?_
            clear hlx
            intro w3 hbw3
            obtain ⟨hzw3, hcw3, hfw3⟩ := bfacts hbw3; (try simp at hzw3 hcw3 hfw3); (try (have : w.heap.size < w3.heap.size := by omega)); (try (have : w.heap.size + 1 < w3.heap.size := by omega)); (try (have : w.heap.size + 1 + 1 < w3.heap.size := by omega)); (try (have : w.heap.size + 1 + 1 + 1 < w3.heap.size := by omega))
            go_wp2
            go_roundw
            case rel => exact ⟨j + 1, by omega, by rw [← HKK.out]; go_num, by rw [HROW.out]; exact hQ.out.below (by repeat' (first | (with_reducible exact Below.refl _ _) | (with_reducible assumption) | (with_reducible refine Below.alloc ?_ ?_ _) | (with_reducible refine Below.drew ?_) | (with_reducible refine Below.setCell ?_ ?_ _) | (with_reducible refine Below.stepB (by assumption) ?_ ?_) | go_size)), by repeat' (first | (with_reducible exact Below.refl _ _) | (with_reducible assumption) | (with_reducible refine Below.alloc ?_ ?_ _) | (with_reducible refine Below.drew ?_) | (with_reducible refine Below.setCell ?_ ?_ _) | (with_reducible refine Below.stepB (by assumption) ?_ ?_) | go_size)⟩
            case measure => simp [intOf]; omega
        · obtain rfl : j = n - (i + 1) := by omega
          have hkn : ¬ ((i + 1 + (n - (i + 1)) : Nat) : Int) < (n : Int) := by omega
          go_wp2
          go_roundw
          case rel => exact ⟨i + 1, by omega, by go_num, by rw [pairsAt_last]; exact hQ, by repeat' (first | (with_reducible exact Below.refl _ _) | (with_reducible assumption) | (with_reducible refine Below.alloc ?_ ?_ _) | (with_reducible refine Below.drew ?_) | (with_reducible refine Below.setCell ?_ ?_ _) | (with_reducible refine Below.stepB (by assumption) ?_ ?_) | go_size)⟩
          case measure => simp [intOf]; omega
    · obtain rfl : i = n := by omega
      obtain ⟨A6, c6, rfl⟩ := RowsIn.form hO.out
      have HO := Lib.hid hO
      clear hO
      go_wp2
      go_ret2
      exact RowsOut.row HO.out.out rfl rfl (by omega) (by repeat' (first | (with_reducible exact Below.refl _ _) | (with_reducible assumption) | (with_reducible refine Below.alloc ?_ ?_ _) | (with_reducible refine Below.drew ?_) | (with_reducible refine Below.setCell ?_ ?_ _) | (with_reducible refine Below.stepB (by assumption) ?_ ?_) | go_size))
theorem ClosePairs_any (A : Option Addr) (n : Nat) (f : Nat → DG) (far : Int) (w : World) (hS : SlDG w A n f) (hn : n ≤ 1048576) :
    Calls Try.prog 37 #[.slice A n n, .int .i64 far] w fun e w' => RowsOut w (pairsL f far n) (pairsOk f far n) e w' := by
  rcases Bool.eq_false_or_eq_true (pairsOk f far n) with h | h
  · have h0 := h
    simp only [pairsOk, Bool.and_eq_true] at h0
    rw [pairsL, h]
    exact ClosePairs_yes A n f far w hS hn h0.1 h0.2
  · exact ClosePairs_no A n n f far w hS hn h
theorem specClose_any (A : Option Addr) (n c : Nat) (f : Nat → DG) (far : Int) (w : World) (hS : SlDG w A n f) (hn : n ≤ 1048576) :
    Calls Try.prog 36 #[.slice A n c, .int .i64 far] w fun e w' => RowsOut w (pairsL f far n) (pairsOk f far n) e w' := by
  rcases Bool.eq_false_or_eq_true (pairsOk f far n) with h | h
  · have h0 := h
    simp only [pairsOk, Bool.and_eq_true] at h0
    rw [pairsL, h]
    exact specClose_yes A n c f far w hS hn h0.1 h0.2
  · exact specClose_no A n c f far w hS hn h
theorem pairsL_len (f : Nat → DG) (far : Int) (n : Nat) : (pairsL f far n).length ≤ 1048576 := by
  unfold pairsL
  split
  · rename_i h
    simp only [pairsOk, Bool.and_eq_true] at h
    have h10 := (goodDAll_iff.1 h.1).2
    have h1 := pairsTo_len f far n n
    have h3 : n * n ≤ 10 * 10 := Nat.mul_le_mul h10 h10
    omega
  · simp
end Go.Proofs.Ytclcgckledbpfaa
