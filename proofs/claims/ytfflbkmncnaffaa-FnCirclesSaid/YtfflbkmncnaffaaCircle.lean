/- Contracts of the functions on the circle of a triangle; the law. -/
import Derived.Test.YtfflbkmncnaffaaCross
namespace Go.Proofs.Ytfflbkmncnaffaa
open Go.RowKit
/-- the three terms of the circle's test -/
def ccT (ax ay bx b_y cx cy px py : Int) : Int := sqD ax ay px py * crD px py bx b_y cx cy
def ccS (ax ay bx b_y cx cy px py : Int) : Nat → Int
  | 0 => 0
  | 1 => ccT ax ay bx b_y cx cy px py
  | 2 => ccT ax ay bx b_y cx cy px py + ccT bx b_y cx cy ax ay px py
  | _ => ccT ax ay bx b_y cx cy px py + ccT bx b_y cx cy ax ay px py + ccT cx cy ax ay bx b_y px py
def inCircle (ax ay bx b_y cx cy px py : Int) : Bool := decide (0 < ccS ax ay bx b_y cx cy px py 3)
theorem ccT_bd {ax ay bx b_y cx cy px py : Int} (h : spotB ax ay = true) (k : spotB bx b_y = true) (l : spotB cx cy = true) (m : spotB px py = true) :
    -4000000000000 ≤ ccT ax ay bx b_y cx cy px py ∧ ccT ax ay bx b_y cx cy px py ≤ 4000000000000 := by
  have h1 := sqD_bd h m
  have h2 := crD_bd m k l
  have := mul_bd (a := sqD ax ay px py) (b := crD px py bx b_y cx cy) (M := 2000000) (N := 2000000) (by omega) (by omega) (by omega) (by omega)
  unfold ccT
  omega
set_option maxHeartbeats 1000000 in
theorem isInCircle_any (ax ay bx b_y cx cy px py : Int) (w : World) (h : spotB ax ay = true) (k : spotB bx b_y = true) (l : spotB cx cy = true) (m : spotB px py = true) :
    Calls Try.prog 69 #[.agg #[.int .i64 ax, .int .i64 ay, .int .i64 bx, .int .i64 b_y, .int .i64 cx, .int .i64 cy], .agg #[.int .i64 px, .int .i64 py]] w
    fun e w' => e = .returned (.bool (inCircle ax ay bx b_y cx cy px py)) ∧ Below w.heap.size w w' := by
  have t1 := ccT_bd h k l m
  have t2 := ccT_bd k l h m
  have t3 := ccT_bd l h k m
  go_enter Try.func69, Try.ntmps69
  go_wp2
  have hB1 : Blk ((w.alloc (.cells #[.int .i64 ax, .int .i64 ay, .int .i64 bx, .int .i64 b_y, .int .i64 cx, .int .i64 cy] 95)).alloc (.cells #[.int .i64 px, .int .i64 py] 26)) w.heap.size 95 #[.int .i64 ax, .int .i64 ay, .int .i64 bx, .int .i64 b_y, .int .i64 cx, .int .i64 cy] := (Blk.new _ _ _).alloc _
  have hB2 : Blk ((w.alloc (.cells #[.int .i64 ax, .int .i64 ay, .int .i64 bx, .int .i64 b_y, .int .i64 cx, .int .i64 cy] 95)).alloc (.cells #[.int .i64 px, .int .i64 py] 26)) (w.heap.size + 1) 26 #[.int .i64 px, .int .i64 py] := by
    have := Blk.new (w.alloc (.cells #[.int .i64 ax, .int .i64 ay, .int .i64 bx, .int .i64 b_y, .int .i64 cx, .int .i64 cy] 95)) 26 #[.int .i64 px, .int .i64 py]
    simpa using this
  go_loopw [5, 7] (fun v5 v7 wr => ∃ i : Nat, i ≤ 3 ∧ v7 = .int .i64 i ∧ v5 = .int .i64 (ccS ax ay bx b_y cx cy px py i) ∧ Blk wr w.heap.size 95 #[.int .i64 ax, .int .i64 ay, .int .i64 bx, .int .i64 b_y, .int .i64 cx, .int .i64 cy] ∧ Blk wr (w.heap.size + 1) 26 #[.int .i64 px, .int .i64 py] ∧ Below w.heap.size w wr) (fun _ v7 _ => 3 - (intOf v7).toNat)
  case atStart => exact ⟨0, by decide, rfl, rfl, hB1, hB2, by repeat' (first | (with_reducible exact Below.refl _ _) | (with_reducible assumption) | (with_reducible refine Below.alloc ?_ ?_ _) | (with_reducible refine Below.drew ?_) | (with_reducible refine Below.setCell ?_ ?_ _) | (with_reducible refine Below.stepB (by assumption) ?_ ?_) | go_size)⟩
  case round =>
    clear hB1 hB2
    obtain ⟨i, hi, rfl, rfl, hB1, hB2, hbr⟩ := hrel
    have hzr := hbr.size
    obtain ⟨hl2, p0, p1⟩ := hB2.two
    have hl1 := hB1.lt
    have c0 := hB1.cell 0
    have c1 := hB1.cell 1
    have c2 := hB1.cell 2
    have c3 := hB1.cell 3
    have c4 := hB1.cell 4
    have c5 := hB1.cell 5
    simp at c0 c1 c2 c3 c4 c5
    have hcase : i = 0 ∨ i = 1 ∨ i = 2 ∨ i = 3 := by omega
    rcases hcase with rfl | rfl | rfl | rfl
    · obtain ⟨s, hs⟩ : ∃ s, ccS ax ay bx b_y cx cy px py 0 = s := ⟨_, rfl⟩
      have hs2 : Hid (ccS ax ay bx b_y cx cy px py (0 + 1) = s + ccT ax ay bx b_y cx cy px py) := by show _ = _; rw [← hs]; simp [ccS]
      have hsb : -8000000000000 ≤ s ∧ s ≤ 8000000000000 := by rw [← hs]; simp only [ccS]; omega
      have tt := t1
      unfold ccT at tt
      rw [hs]
      clear hs t1 t2 t3
      go_wp2
      refine wp_region_later (by kernel_rfl) (by kernel_rfl) (fun hlx => ?_)
      repeat (go_big_quiet_step ((first | (go_at_call 112; exact Later.call (squareOf_any ax ay px py _ h m)) | (go_at_call 68; exact Later.call (crossOf_any px py bx b_y cx cy _ m k l)))))
      refine wpQuiet_nil ?_
      clear hlx
      intro w3 hbw3
      obtain ⟨hzw3, hcw3, hfw3⟩ := bfacts hbw3; (try simp at hzw3 hcw3 hfw3); (try (have : w.heap.size < w3.heap.size := by omega)); (try (have : w.heap.size + 1 < w3.heap.size := by omega)); (try (have : w.heap.size + 1 + 1 < w3.heap.size := by omega)); (try (have : w.heap.size + 1 + 1 + 1 < w3.heap.size := by omega))
      have hB1' := Lib.hid (hB1.below hbw3 hl1)
      have hB2' := Lib.hid (hB2.below hbw3 hl2)
      go_wp2
      go_roundw
      case rel => exact ⟨0 + 1, by decide, rfl, by rw [hs2.out]; unfold ccT; rfl, hB1'.out, hB2'.out, by repeat' (first | (with_reducible exact Below.refl _ _) | (with_reducible assumption) | (with_reducible refine Below.alloc ?_ ?_ _) | (with_reducible refine Below.drew ?_) | (with_reducible refine Below.setCell ?_ ?_ _) | (with_reducible refine Below.stepB (by assumption) ?_ ?_) | go_size)⟩
      case measure => simp [intOf]
    · obtain ⟨s, hs⟩ : ∃ s, ccS ax ay bx b_y cx cy px py 1 = s := ⟨_, rfl⟩
      have hs2 : Hid (ccS ax ay bx b_y cx cy px py (1 + 1) = s + ccT bx b_y cx cy ax ay px py) := by show _ = _; rw [← hs]; simp [ccS]
      have hsb : -8000000000000 ≤ s ∧ s ≤ 8000000000000 := by rw [← hs]; simp only [ccS]; omega
      have tt := t2
      unfold ccT at tt
      rw [hs]
      clear hs t1 t2 t3
      go_wp2
      refine wp_region_later (by kernel_rfl) (by kernel_rfl) (fun hlx => ?_)
      repeat (go_big_quiet_step ((first | (go_at_call 112; exact Later.call (squareOf_any bx b_y px py _ k m)) | (go_at_call 68; exact Later.call (crossOf_any px py cx cy ax ay _ m l h)))))
      refine wpQuiet_nil ?_
      clear hlx
      intro w3 hbw3
      obtain ⟨hzw3, hcw3, hfw3⟩ := bfacts hbw3; (try simp at hzw3 hcw3 hfw3); (try (have : w.heap.size < w3.heap.size := by omega)); (try (have : w.heap.size + 1 < w3.heap.size := by omega)); (try (have : w.heap.size + 1 + 1 < w3.heap.size := by omega)); (try (have : w.heap.size + 1 + 1 + 1 < w3.heap.size := by omega))
      have hB1' := Lib.hid (hB1.below hbw3 hl1)
      have hB2' := Lib.hid (hB2.below hbw3 hl2)
      go_wp2
      go_roundw
      case rel => exact ⟨1 + 1, by decide, rfl, by rw [hs2.out]; unfold ccT; rfl, hB1'.out, hB2'.out, by repeat' (first | (with_reducible exact Below.refl _ _) | (with_reducible assumption) | (with_reducible refine Below.alloc ?_ ?_ _) | (with_reducible refine Below.drew ?_) | (with_reducible refine Below.setCell ?_ ?_ _) | (with_reducible refine Below.stepB (by assumption) ?_ ?_) | go_size)⟩
      case measure => simp [intOf]
    · obtain ⟨s, hs⟩ : ∃ s, ccS ax ay bx b_y cx cy px py 2 = s := ⟨_, rfl⟩
      have hs2 : Hid (ccS ax ay bx b_y cx cy px py (2 + 1) = s + ccT cx cy ax ay bx b_y px py) := by show _ = _; rw [← hs]; simp [ccS]
      have hsb : -8000000000000 ≤ s ∧ s ≤ 8000000000000 := by rw [← hs]; simp only [ccS]; omega
      have tt := t3
      unfold ccT at tt
      rw [hs]
      clear hs t1 t2 t3
      go_wp2
      refine wp_region_later (by kernel_rfl) (by kernel_rfl) (fun hlx => ?_)
      repeat (go_big_quiet_step ((first | (go_at_call 112; exact Later.call (squareOf_any cx cy px py _ l m)) | (go_at_call 68; exact Later.call (crossOf_any px py ax ay bx b_y _ m h k)))))
      refine wpQuiet_nil ?_
      clear hlx
      intro w3 hbw3
      obtain ⟨hzw3, hcw3, hfw3⟩ := bfacts hbw3; (try simp at hzw3 hcw3 hfw3); (try (have : w.heap.size < w3.heap.size := by omega)); (try (have : w.heap.size + 1 < w3.heap.size := by omega)); (try (have : w.heap.size + 1 + 1 < w3.heap.size := by omega)); (try (have : w.heap.size + 1 + 1 + 1 < w3.heap.size := by omega))
      have hB1' := Lib.hid (hB1.below hbw3 hl1)
      have hB2' := Lib.hid (hB2.below hbw3 hl2)
      go_wp2
      go_roundw
      case rel => exact ⟨2 + 1, by decide, rfl, by rw [hs2.out]; unfold ccT; rfl, hB1'.out, hB2'.out, by repeat' (first | (with_reducible exact Below.refl _ _) | (with_reducible assumption) | (with_reducible refine Below.alloc ?_ ?_ _) | (with_reducible refine Below.drew ?_) | (with_reducible refine Below.setCell ?_ ?_ _) | (with_reducible refine Below.stepB (by assumption) ?_ ?_) | go_size)⟩
      case measure => simp [intOf]
    · go_wp2
      go_ret
      exact ⟨ret_bool (by simp [inCircle]), by repeat' (first | (with_reducible exact Below.refl _ _) | (with_reducible assumption) | (with_reducible refine Below.alloc ?_ ?_ _) | (with_reducible refine Below.drew ?_) | (with_reducible refine Below.setCell ?_ ?_ _) | (with_reducible refine Below.stepB (by assumption) ?_ ?_) | go_size)⟩
theorem circle_eq (ax ay bx b_y cx cy px py : Int) :
    ((ax - px) * (ax - px) + (ay - py) * (ay - py)) * ((bx - px) * (cy - py) - (b_y - py) * (cx - px)) - ((bx - px) * (bx - px) + (b_y - py) * (b_y - py)) * ((ax - px) * (cy - py) - (ay - py) * (cx - px)) + ((cx - px) * (cx - px) + (cy - py) * (cy - py)) * ((ax - px) * (b_y - py) - (ay - py) * (bx - px)) = ccS ax ay bx b_y cx cy px py 3 := by
  simp only [ccS, ccT, sqD, crD]
  grind
theorem l15Circle_any (ax ay bx b_y cx cy px py : Int) (w : World) (h : spotB ax ay = true) (k : spotB bx b_y = true) (l : spotB cx cy = true) (m : spotB px py = true) :
    Calls Try.prog 66 #[.agg #[.int .i64 ax, .int .i64 ay], .agg #[.int .i64 bx, .int .i64 b_y], .agg #[.int .i64 cx, .int .i64 cy], .agg #[.int .i64 px, .int .i64 py]] w
    fun e w' => e = .returned (.bool (inCircle ax ay bx b_y cx cy px py)) ∧ Below w.heap.size w w' := by
  obtain ⟨⟨a1, a2⟩, a3, a4⟩ := spotB_iff.1 h
  obtain ⟨⟨b1, b2⟩, b3, b4⟩ := spotB_iff.1 k
  obtain ⟨⟨c1, c2⟩, c3, c4⟩ := spotB_iff.1 l
  obtain ⟨⟨d1, d2⟩, d3, d4⟩ := spotB_iff.1 m
  have sa1 := mul_bd (a := (ax - px)) (b := (ax - px)) (M := 1000) (N := 1000) (by omega) (by omega) (by omega) (by omega)
  have sa2 := mul_bd (a := (ay - py)) (b := (ay - py)) (M := 1000) (N := 1000) (by omega) (by omega) (by omega) (by omega)
  have sb1 := mul_bd (a := (bx - px)) (b := (bx - px)) (M := 1000) (N := 1000) (by omega) (by omega) (by omega) (by omega)
  have sb2 := mul_bd (a := (b_y - py)) (b := (b_y - py)) (M := 1000) (N := 1000) (by omega) (by omega) (by omega) (by omega)
  have sc1 := mul_bd (a := (cx - px)) (b := (cx - px)) (M := 1000) (N := 1000) (by omega) (by omega) (by omega) (by omega)
  have sc2 := mul_bd (a := (cy - py)) (b := (cy - py)) (M := 1000) (N := 1000) (by omega) (by omega) (by omega) (by omega)
  have rbc1 := mul_bd (a := (bx - px)) (b := (cy - py)) (M := 1000) (N := 1000) (by omega) (by omega) (by omega) (by omega)
  have rbc2 := mul_bd (a := (b_y - py)) (b := (cx - px)) (M := 1000) (N := 1000) (by omega) (by omega) (by omega) (by omega)
  have rac1 := mul_bd (a := (ax - px)) (b := (cy - py)) (M := 1000) (N := 1000) (by omega) (by omega) (by omega) (by omega)
  have rac2 := mul_bd (a := (ay - py)) (b := (cx - px)) (M := 1000) (N := 1000) (by omega) (by omega) (by omega) (by omega)
  have rab1 := mul_bd (a := (ax - px)) (b := (b_y - py)) (M := 1000) (N := 1000) (by omega) (by omega) (by omega) (by omega)
  have rab2 := mul_bd (a := (ay - py)) (b := (bx - px)) (M := 1000) (N := 1000) (by omega) (by omega) (by omega) (by omega)
  have pa := mul_bd (a := (ax - px) * (ax - px) + (ay - py) * (ay - py)) (b := ((bx - px) * (cy - py) - (b_y - py) * (cx - px))) (M := 2000000) (N := 2000000) (by omega) (by omega) (by omega) (by omega)
  have pb := mul_bd (a := (bx - px) * (bx - px) + (b_y - py) * (b_y - py)) (b := ((ax - px) * (cy - py) - (ay - py) * (cx - px))) (M := 2000000) (N := 2000000) (by omega) (by omega) (by omega) (by omega)
  have pc := mul_bd (a := (cx - px) * (cx - px) + (cy - py) * (cy - py)) (b := ((ax - px) * (b_y - py) - (ay - py) * (bx - px))) (M := 2000000) (N := 2000000) (by omega) (by omega) (by omega) (by omega)
  go_enter Try.func66, Try.ntmps66
  go_wp2
  refine wp_region_later (by kernel_rfl) (by kernel_rfl) (fun hlx => ?_)
  repeat (go_big_quiet_step (fail))
  refine wpQuiet_nil ?_
  clear hlx
  intro w1 hbw1
  obtain ⟨hzw1, hcw1, hfw1⟩ := bfacts hbw1; (try simp at hzw1 hcw1 hfw1); (try (have : w.heap.size < w1.heap.size := by omega)); (try (have : w.heap.size + 1 < w1.heap.size := by omega)); (try (have : w.heap.size + 1 + 1 < w1.heap.size := by omega)); (try (have : w.heap.size + 1 + 1 + 1 < w1.heap.size := by omega))
  go_wp2
  refine wp_region_later (by kernel_rfl) (by kernel_rfl) (fun hlx => ?_)
  repeat (go_big_quiet_step (fail))
  refine wpQuiet_nil ?_
  clear hlx
  intro w2 hbw2
  obtain ⟨hzw2, hcw2, hfw2⟩ := bfacts hbw2; (try simp at hzw2 hcw2 hfw2); (try (have : w.heap.size < w2.heap.size := by omega)); (try (have : w.heap.size + 1 < w2.heap.size := by omega)); (try (have : w.heap.size + 1 + 1 < w2.heap.size := by omega)); (try (have : w.heap.size + 1 + 1 + 1 < w2.heap.size := by omega))
  go_wp2
  refine wp_region_later (by kernel_rfl) (by kernel_rfl) (fun hlx => ?_)
  repeat (go_big_quiet_step (fail))
  refine wpQuiet_nil ?_
  clear hlx
  intro w3 hbw3
  obtain ⟨hzw3, hcw3, hfw3⟩ := bfacts hbw3; (try simp at hzw3 hcw3 hfw3); (try (have : w.heap.size < w3.heap.size := by omega)); (try (have : w.heap.size + 1 < w3.heap.size := by omega)); (try (have : w.heap.size + 1 + 1 < w3.heap.size := by omega)); (try (have : w.heap.size + 1 + 1 + 1 < w3.heap.size := by omega))
  go_wp2
  go_ret
  exact ⟨ret_bool (by rw [inCircle, ← circle_eq]), by repeat' (first | (with_reducible exact Below.refl _ _) | (with_reducible assumption) | (with_reducible refine Below.alloc ?_ ?_ _) | (with_reducible refine Below.drew ?_) | (with_reducible refine Below.setCell ?_ ?_ _) | (with_reducible refine Below.stepB (by assumption) ?_ ?_) | go_size)⟩
def circOk (ax ay bx b_y cx cy px py : Int) : Bool := spotB ax ay && spotB bx b_y && spotB cx cy && spotB px py && decide (0 < crD ax ay bx b_y cx cy)
def circV (ax ay bx b_y cx cy px py : Int) : Bool := circOk ax ay bx b_y cx cy px py && inCircle ax ay bx b_y cx cy px py
theorem ret_bb {a b c d : Bool} (h1 : a = c) (h2 : b = d) : Ending.returned (.tuple #[.bool a, .bool b]) = .returned (.tuple #[.bool c, .bool d]) := by rw [h1, h2]
set_option maxHeartbeats 1000000 in
theorem IsInCircle_any (ax ay bx b_y cx cy px py : Int) (w : World) :
    Calls Try.prog 16 #[.agg #[.int .i64 ax, .int .i64 ay], .agg #[.int .i64 bx, .int .i64 b_y], .agg #[.int .i64 cx, .int .i64 cy], .agg #[.int .i64 px, .int .i64 py]] w
    fun e w' => e = .returned (.tuple #[.bool (circV ax ay bx b_y cx cy px py), .bool (circOk ax ay bx b_y cx cy px py)]) ∧ Below w.heap.size w w' := by
  go_enter Try.func16, Try.ntmps16
  go_wp2_with (first | (go_at_call 67; refine (IsSpot_any _ _ _).mono ?_; rintro e w1 ⟨rfl, hbw1⟩; obtain ⟨hzw1, hcw1, hfw1⟩ := bfacts hbw1; (try simp at hzw1 hcw1 hfw1); (try (have : w.heap.size < w1.heap.size := by omega)); (try (have : w.heap.size + 1 < w1.heap.size := by omega)); (try (have : w.heap.size + 1 + 1 < w1.heap.size := by omega)); (try (have : w.heap.size + 1 + 1 + 1 < w1.heap.size := by omega))) | (go_at_call 68; refine (crossOf_any _ _ _ _ _ _ _ (by assumption) (by assumption) (by assumption)).mono ?_; rintro e w2 ⟨rfl, hbw2⟩; obtain ⟨hzw2, hcw2, hfw2⟩ := bfacts hbw2; (try simp at hzw2 hcw2 hfw2); (try (have : w.heap.size < w2.heap.size := by omega)); (try (have : w.heap.size + 1 < w2.heap.size := by omega)); (try (have : w.heap.size + 1 + 1 < w2.heap.size := by omega)); (try (have : w.heap.size + 1 + 1 + 1 < w2.heap.size := by omega))) | (go_at_call 69; refine (isInCircle_any _ _ _ _ _ _ _ _ _ (by assumption) (by assumption) (by assumption) (by assumption)).mono ?_; rintro e w3 ⟨rfl, hbw3⟩; obtain ⟨hzw3, hcw3, hfw3⟩ := bfacts hbw3; (try simp at hzw3 hcw3 hfw3); (try (have : w.heap.size < w3.heap.size := by omega)); (try (have : w.heap.size + 1 < w3.heap.size := by omega)); (try (have : w.heap.size + 1 + 1 < w3.heap.size := by omega)); (try (have : w.heap.size + 1 + 1 + 1 < w3.heap.size := by omega))))
  all_goals go_ret2
  all_goals refine ⟨ret_bb ?_ ?_, ?_⟩
  all_goals first | (simp [circV, circOk, *]; done) | (simp [circV, circOk, *]; omega) | skip
  all_goals (repeat' (first | (with_reducible exact Below.refl _ _) | (with_reducible assumption) | (with_reducible refine Below.alloc ?_ ?_ _) | (with_reducible refine Below.drew ?_) | (with_reducible refine Below.setCell ?_ ?_ _) | (with_reducible refine Below.stepB (by assumption) ?_ ?_) | go_size))
set_option maxHeartbeats 1000000 in
theorem specInCircle_any (ax ay bx b_y cx cy px py : Int) (w : World) :
    Calls Try.prog 14 #[.agg #[.int .i64 ax, .int .i64 ay], .agg #[.int .i64 bx, .int .i64 b_y], .agg #[.int .i64 cx, .int .i64 cy], .agg #[.int .i64 px, .int .i64 py]] w
    fun e w' => e = .returned (.tuple #[.bool (circV ax ay bx b_y cx cy px py), .bool (circOk ax ay bx b_y cx cy px py)]) ∧ Below w.heap.size w w' := by
  go_enter Try.func14, Try.ntmps14
  go_wp2_with (first | (go_at_call 64; refine (l2Spot_any _ _ _).mono ?_; rintro e w1 ⟨rfl, hbw1⟩; obtain ⟨hzw1, hcw1, hfw1⟩ := bfacts hbw1; (try simp at hzw1 hcw1 hfw1); (try (have : w.heap.size < w1.heap.size := by omega)); (try (have : w.heap.size + 1 < w1.heap.size := by omega)); (try (have : w.heap.size + 1 + 1 < w1.heap.size := by omega)); (try (have : w.heap.size + 1 + 1 + 1 < w1.heap.size := by omega))) | (go_at_call 65; refine (l2Cross_any _ _ _ _ _ _ _ (by assumption) (by assumption) (by assumption)).mono ?_; rintro e w2 ⟨rfl, hbw2⟩; obtain ⟨hzw2, hcw2, hfw2⟩ := bfacts hbw2; (try simp at hzw2 hcw2 hfw2); (try (have : w.heap.size < w2.heap.size := by omega)); (try (have : w.heap.size + 1 < w2.heap.size := by omega)); (try (have : w.heap.size + 1 + 1 < w2.heap.size := by omega)); (try (have : w.heap.size + 1 + 1 + 1 < w2.heap.size := by omega))) | (go_at_call 66; refine (l15Circle_any _ _ _ _ _ _ _ _ _ (by assumption) (by assumption) (by assumption) (by assumption)).mono ?_; rintro e w3 ⟨rfl, hbw3⟩; obtain ⟨hzw3, hcw3, hfw3⟩ := bfacts hbw3; (try simp at hzw3 hcw3 hfw3); (try (have : w.heap.size < w3.heap.size := by omega)); (try (have : w.heap.size + 1 < w3.heap.size := by omega)); (try (have : w.heap.size + 1 + 1 < w3.heap.size := by omega)); (try (have : w.heap.size + 1 + 1 + 1 < w3.heap.size := by omega))))
  all_goals go_ret2
  all_goals refine ⟨ret_bb ?_ ?_, ?_⟩
  all_goals first | (simp [circV, circOk, *]; done) | (simp [circV, circOk, *]; omega) | skip
  all_goals (repeat' (first | (with_reducible exact Below.refl _ _) | (with_reducible assumption) | (with_reducible refine Below.alloc ?_ ?_ _) | (with_reducible refine Below.drew ?_) | (with_reducible refine Below.setCell ?_ ?_ _) | (with_reducible refine Below.stepB (by assumption) ?_ ?_) | go_size))
end Go.Proofs.Ytfflbkmncnaffaa
