/- Contracts of the reference's function that merges two fields. -/
import Derived.Test.YtepibbjcmjabiaaFieldI
namespace Go.Proofs.Ytepibbjcmjabiaa
open Go.RowKit
theorem l1Least_any (x y : Int) (w : World) : Calls Try.prog 40 #[.int .i64 x, .int .i64 y] w fun e w' => e = .returned (.int .i64 (if y < x then y else x)) ∧ w = w' := by
  by_cases h : x < y
  · have h2 : (if y < x then y else x) = x := if_neg (by omega)
    rw [h2]
    go_enter Try.func40, Try.ntmps40
    go_wp2
    go_ret
    exact ⟨rfl, rfl⟩
  · have h2 : (if y < x then y else x) = y := by split <;> omega
    rw [h2]
    go_enter Try.func40, Try.ntmps40
    go_wp2
    go_ret
    exact ⟨rfl, rfl⟩
set_option maxHeartbeats 16000000 in
theorem specMerge_yes (r cl : Int) (A : Option Addr) (n c : Nat) (L1 : Nat → Int) (A2 : Option Addr) (c2 : Nat) (L2 : Nat → Int) (w : World) (hS : SlI w A n L1) (hS2 : SlI w A2 n L2) (hn : n ≤ 1048576)
    (h1 : okF r cl n L1 = true) (h2 : okF r cl n L2 = true) : Calls Try.prog 17 #[.agg #[.int .i64 r, .int .i64 cl, .slice A n c], .agg #[.int .i64 r, .int .i64 cl, .slice A2 n c2]] w
    fun e w' => FieldOut w r cl (mergeL L1 L2 n) true e w' := by
  have g1 := fun W (hb : Below w.heap.size w W) => l19Good_any r cl A n c L1 W (hS.below hb) hn
  have g2 := fun W (hb : Below w.heap.size w W) => l19Good_any r cl A2 n c2 L2 W (hS2.below hb) hn
  rw [h1] at g1
  rw [h2] at g2
  have H1 := Lib.hid g1
  have H2 := Lib.hid g2
  have HS := Lib.hid hS
  have HS2 := Lib.hid hS2
  clear hS hS2 g1 g2 h1 h2
  obtain ⟨i0, hi0, hz0, hz1, hz2⟩ := info_parts int_infoC
  go_enter Try.func17, Try.ntmps17
  go_wp2_with fail
  refine (H1.out _ (by repeat' (first | (with_reducible exact Below.refl _ _) | (with_reducible assumption) | (with_reducible refine Below.alloc ?_ ?_ _) | (with_reducible refine Below.drew ?_) | (with_reducible refine Below.setCell ?_ ?_ _) | (with_reducible refine Below.stepB (by assumption) ?_ ?_) | go_size))).mono ?_
  rintro e w1 ⟨rfl, hbw1⟩
  obtain ⟨hzw1, hcw1, hfw1⟩ := bfacts hbw1; (try simp at hzw1 hcw1 hfw1); (try (have : w.heap.size < w1.heap.size := by omega)); (try (have : w.heap.size + 1 < w1.heap.size := by omega)); (try (have : w.heap.size + 1 + 1 < w1.heap.size := by omega)); (try (have : w.heap.size + 1 + 1 + 1 < w1.heap.size := by omega))
  go_wp2_with fail
  refine (H2.out _ (by repeat' (first | (with_reducible exact Below.refl _ _) | (with_reducible assumption) | (with_reducible refine Below.alloc ?_ ?_ _) | (with_reducible refine Below.drew ?_) | (with_reducible refine Below.setCell ?_ ?_ _) | (with_reducible refine Below.stepB (by assumption) ?_ ?_) | go_size))).mono ?_
  rintro e w2 ⟨rfl, hbw2⟩
  obtain ⟨hzw2, hcw2, hfw2⟩ := bfacts hbw2; (try simp at hzw2 hcw2 hfw2); (try (have : w.heap.size < w2.heap.size := by omega)); (try (have : w.heap.size + 1 < w2.heap.size := by omega)); (try (have : w.heap.size + 1 + 1 < w2.heap.size := by omega)); (try (have : w.heap.size + 1 + 1 + 1 < w2.heap.size := by omega))
  have hBa : Blk w2 w.heap.size 27 #[.int .i64 r, .int .i64 cl, .slice A n c] := ((((blk_new w 27 _ rfl).alloc _).alloc _).below hbw1 (by simp <;> omega)).below hbw2 (by omega)
  have hBb : Blk w2 (w.heap.size + 1) 27 #[.int .i64 r, .int .i64 cl, .slice A2 n c2] := (((blk_new (w.alloc _) 27 _ (by simp)).alloc _).below hbw1 (by simp <;> omega)).below hbw2 (by omega)
  have hBz : Blk w2 (w.heap.size + 2) 27 #[.int .i64 0, .int .i64 0, .slice none 0 0] := ((blk_new _ 27 _ (by simp)).below hbw1 (by simp)).below hbw2 (by omega)
  have HBb := Lib.hid hBb
  have HBa := Lib.hid hBa
  have HBz := Lib.hid hBz
  have a0 := hBa.cell 0
  have a1 := hBa.cell 1
  have a2 := hBa.cell 2
  have b0 := hBb.cell 0
  have b1 := hBb.cell 1
  simp only [List.getElem?_toArray] at a0 a1 a2 b0 b1
  clear hBa hBb hBz hcw1 hcw2
  go_wp2
  clear a0 a1 a2 b0 b1
  go_loopw [7] (fun vc wr => ∃ (k : Nat) (v : Value), k ≤ n ∧ vc = .int .i64 k ∧ wr.ownsRow w2.heap.size 3 1 v (mergeL L1 L2 k).length ((mergeL L1 L2 k).map (Value.int .i64)) ∧ AwayRow v (w2.heap.size + 1) (w2.heap.size + 2) ∧ Blk wr (w2.heap.size + 1) 27 #[.int .i64 r, .int .i64 cl, v] ∧ Below w2.heap.size w2 wr) (fun vc _ => n - (intOf vc).toNat)
  case atStart => exact ⟨0, _, Nat.zero_le _, rfl, (ownsRow_empty w2 3 1).alloc _, AwayRow.at (.inl (Nat.lt_succ_self _)) rfl, blk_new (w2.alloc _) 27 _ (by simp), by repeat' (first | (with_reducible exact Below.refl _ _) | (with_reducible assumption) | (with_reducible refine Below.alloc ?_ ?_ _) | (with_reducible refine Below.drew ?_) | (with_reducible refine Below.setCell ?_ ?_ _) | (with_reducible refine Below.stepB (by assumption) ?_ ?_) | go_size)⟩
  case round =>
    obtain ⟨k, v, hk, rfl, hO, haw, hB, hb2⟩ := hrel
    have hzr := hb2.size
    have hlt1 := hB.lt
    have hlen : (mergeL L1 L2 k).length ≤ k := pick_len k
    obtain ⟨A7, c7, rfl⟩ := ownsRow_form hO
    have HO := Lib.hid hO
    have HAW := Lib.hid haw
    clear hO haw
    have hbw : Below w.heap.size w wr := by repeat' (first | (with_reducible exact Below.refl _ _) | (with_reducible assumption) | (with_reducible refine Below.alloc ?_ ?_ _) | (with_reducible refine Below.drew ?_) | (with_reducible refine Below.setCell ?_ ?_ _) | (with_reducible refine Below.stepB (by assumption) ?_ ?_) | go_size)
    have hBa5 := HBa.out.below hb2 HBa.out.lt
    have g2 : wr.cell? ⟨w.heap.size, 2, none⟩ = some (.slice A n c) := hBa5.cell 2
    clear hBa5
    by_cases hlt : k < n
    · obtain ⟨b, off, rfl, hbl, hbl', c0⟩ := HS.out.at hbw hlt
      obtain ⟨b', off', rfl, hbl2, hbl2', d0⟩ := HS2.out.at hbw hlt
      have hB5 := HBb.out.below hb2 HBb.out.lt
      have e2 : wr.cell? ⟨w.heap.size + 1, 2, none⟩ = some (.slice (some ⟨b', off', none⟩) n c2) := hB5.cell 2
      have f2 : wr.cell? ⟨w2.heap.size + 1, 2, none⟩ = some (.slice A7 (mergeL L1 L2 k).length c7) := hB.cell 2
      have ffz := hB.frozen
      clear hB5
      have HB := Lib.hid hB
      have HBW := Lib.hid hbw
      have hltw : w.heap.size + 1 < w2.heap.size := HBb.out.lt
      clear hB hbw
      go_wp2
      go_region_law (first | (go_simp; go_at_call 40; refine (l1Least_any (L1 k) (L2 k) _).mono ?_; rintro e w5 ⟨rfl, rfl⟩) | (refine step_append_int1_away (by rfl) _ _ 22 (by rfl) w2.heap.size 3 i0 Try.underlying22 hi0 hz0 hz1 hz2 _ (mergeL L1 L2 k).length _ (by rfl) ((HO.out.alloc _).drew) _ _ HAW.out ?_ ⟨wr.heap.size, 0, none⟩ 1 (if L2 k < L1 k then L2 k else L1 k) (by rfl) ?_ (by omega) (by simp; omega) ?_; go_loud (focus (simp; omega)); go_loud (focus (simp; done)); intro v9 w4 hOw4 hbw4 haw4 hbl4; have hzw4 := hbw4.size; (try simp at hzw4); obtain ⟨A9, c9, rfl⟩ := ownsRow_form hOw4; have hB4 : Blk w4 (w2.heap.size + 1) 27 #[.int .i64 r, .int .i64 cl, .slice A7 (mergeL L1 L2 k).length c7] := (hbl4 (w2.heap.size + 1) (Nat.le_refl _) (by omega)).trans ((HB.out.alloc _).drew); have f4 : w4.cell? ⟨w2.heap.size + 1, 2, none⟩ = some (.slice A7 (mergeL L1 L2 k).length c7) := hB4.cell 2; have fz4 := hB4.frozen 2; have hlt4 := hB4.lt))
      all_goals
        have hB24 : Below w2.heap.size w2 w4 := by repeat' (first | (with_reducible exact Below.refl _ _) | (with_reducible assumption) | (with_reducible refine Below.alloc ?_ ?_ _) | (with_reducible refine Below.drew ?_) | (with_reducible refine Below.setCell ?_ ?_ _) | (with_reducible refine Below.stepB (by assumption) ?_ ?_) | go_size)
        have hO4 := Lib.hid hOw4
        have HB4 := Lib.hid hB4
        clear hOw4 hB4 e2 f2 ffz g2
        go_wp2
        go_roundw
        case rel => exact ⟨k + 1, _, by omega, by go_num, by rw [mergeL_snoc]; exact owns_snoc (ownsRow_setFar hO4.out haw4 (Nat.le_refl _) (Nat.lt_succ_self _)), haw4, HB4.out.set_ 2 _, hB24.setCell (Nat.le_succ _) _⟩
        case measure => simp [intOf]; omega
    · obtain rfl : k = n := by omega
      have hBz := HBz.out.below hb2 HBz.out.lt
      have z0 := hBz.cell 0
      have z1 := hBz.cell 1
      have z2 := hBz.cell 2
      have y0 := hB.cell 0
      have y1 := hB.cell 1
      have y2 := hB.cell 2
      simp only [List.getElem?_toArray] at z0 z1 z2 y0 y1 y2
      have zf := hBz.frozen
      have hltz := hBz.lt
      have hne : w.heap.size + 2 < w2.heap.size := HBz.out.lt
      clear hB hBz
      go_wp2
      refine bodyPost_ret (by simp [results, Try.results17, go_sem, z0, z1, z2]; try rfl) rfl ?_
      refine FieldOut.row (((ownsRow_setBelow (ownsRow_setBelow (ownsRow_setBelow HO.out ?_) ?_) ?_))) (by omega) (by repeat' (first | (with_reducible exact Below.refl _ _) | (with_reducible assumption) | (with_reducible refine Below.alloc ?_ ?_ _) | (with_reducible refine Below.drew ?_) | (with_reducible refine Below.setCell ?_ ?_ _) | (with_reducible refine Below.stepB (by assumption) ?_ ?_) | go_size))
      all_goals (simp; omega)
theorem mergeB_yes {r cl : Int} {n : Nat} {L1 : Nat → Int} {r2 cl2 : Int} {n2 : Nat} {L2 : Nat → Int} (h : mergeB r cl n L1 r2 cl2 n2 L2 = true) : r2 = r ∧ cl2 = cl ∧ n2 = n ∧ okF r cl n L1 = true ∧ okF r cl n L2 = true := by
  simp only [mergeB, Bool.and_eq_true, decide_eq_true_eq] at h
  obtain ⟨h1, h2, rfl, rfl⟩ := h
  have e1 : (n : Int) = r * cl := by
    simp only [okF, Bool.and_eq_true, decide_eq_true_eq] at h1
    exact h1.2.2
  have e2 : (n2 : Int) = r * cl := by
    simp only [okF, Bool.and_eq_true, decide_eq_true_eq] at h2
    exact h2.2.2
  obtain rfl : n2 = n := by omega
  exact ⟨rfl, rfl, rfl, h1, h2⟩
/-- the merged field -/
def mrgR (q : Bool) (r : Int) : Int := if q = true then r else 0
def mrgL (q : Bool) (L : List Int) : List Int := if q = true then L else []
theorem MergeFields_any (r cl : Int) (A : Option Addr) (n c : Nat) (L1 : Nat → Int) (r2 cl2 : Int) (A2 : Option Addr) (n2 c2 : Nat) (L2 : Nat → Int) (w : World) (hS : SlI w A n L1) (hS2 : SlI w A2 n2 L2) (hn : n ≤ 1048576) (hn2 : n2 ≤ 1048576) :
    Calls Try.prog 18 #[.agg #[.int .i64 r, .int .i64 cl, .slice A n c], .agg #[.int .i64 r2, .int .i64 cl2, .slice A2 n2 c2]] w
    fun e w' => FieldOut w (mrgR (mergeB r cl n L1 r2 cl2 n2 L2) r) (mrgR (mergeB r cl n L1 r2 cl2 n2 L2) cl) (mrgL (mergeB r cl n L1 r2 cl2 n2 L2) (mergeL L1 L2 n)) (mergeB r cl n L1 r2 cl2 n2 L2) e w' := by
  rcases Bool.eq_false_or_eq_true (mergeB r cl n L1 r2 cl2 n2 L2) with h | h
  · have h0 := h
    obtain ⟨rfl, rfl, rfl, h1, h2⟩ := mergeB_yes h
    rw [h0]
    exact MergeFields_yes r2 cl2 A n2 c L1 A2 c2 L2 w hS hS2 hn h1 h2
  · rw [h]
    exact MergeFields_no r cl A n c L1 r2 cl2 A2 n2 c2 L2 w hS hS2 hn hn2 h
theorem specMerge_any (r cl : Int) (A : Option Addr) (n c : Nat) (L1 : Nat → Int) (r2 cl2 : Int) (A2 : Option Addr) (n2 c2 : Nat) (L2 : Nat → Int) (w : World) (hS : SlI w A n L1) (hS2 : SlI w A2 n2 L2) (hn : n ≤ 1048576) (hn2 : n2 ≤ 1048576) :
    Calls Try.prog 17 #[.agg #[.int .i64 r, .int .i64 cl, .slice A n c], .agg #[.int .i64 r2, .int .i64 cl2, .slice A2 n2 c2]] w
    fun e w' => FieldOut w (mrgR (mergeB r cl n L1 r2 cl2 n2 L2) r) (mrgR (mergeB r cl n L1 r2 cl2 n2 L2) cl) (mrgL (mergeB r cl n L1 r2 cl2 n2 L2) (mergeL L1 L2 n)) (mergeB r cl n L1 r2 cl2 n2 L2) e w' := by
  rcases Bool.eq_false_or_eq_true (mergeB r cl n L1 r2 cl2 n2 L2) with h | h
  · have h0 := h
    obtain ⟨rfl, rfl, rfl, h1, h2⟩ := mergeB_yes h
    rw [h0]
    exact specMerge_yes r2 cl2 A n2 c L1 A2 c2 L2 w hS hS2 hn h1 h2
  · rw [h]
    exact specMerge_no r cl A n c L1 r2 cl2 A2 n2 c2 L2 w hS hS2 hn hn2 h
end Go.Proofs.Ytepibbjcmjabiaa
