/- Contracts of the functions that find the nearest sample. -/
import Derived.Test.YtfecepjdjikenaaCopy
import Derived.Deep.RegionHeld3
namespace Go.Proofs.Ytfecepjdjikenaa
open Go.RowKit

/-- the square of the distance -/
def sqD (a b c d : Int) : Int := (a - c) * (a - c) + (b - d) * (b - d)
theorem sq_bd {a c : Int} (h1 : 0 ≤ a) (h2 : a ≤ 1000) (h3 : 0 ≤ c) (h4 : c ≤ 1000) : 0 ≤ (a - c) * (a - c) ∧ (a - c) * (a - c) ≤ 1000000 := by
  have h : (a - c) * (a - c) = (a - c).natAbs * (a - c).natAbs := (Int.natAbs_mul_self' _).symm
  have h5 : (a - c).natAbs ≤ 1000 := by omega
  have h6 : (a - c).natAbs * (a - c).natAbs ≤ 1000 * 1000 := Nat.mul_le_mul h5 h5
  rw [h]
  omega
theorem sqD_bd {a b c d : Int} (h : spotB a b = true) (k : spotB c d = true) : 0 ≤ sqD a b c d ∧ sqD a b c d ≤ 2000000 := by
  obtain ⟨⟨a1, a2⟩, a3, a4⟩ := spotB_iff.1 h
  obtain ⟨⟨b1, b2⟩, b3, b4⟩ := spotB_iff.1 k
  have m1 := sq_bd a1 a2 b1 b2
  have m2 := sq_bd a3 a4 b3 b4
  unfold sqD
  omega
theorem squareOf_any (a b c d : Int) (w : World) (h : spotB a b = true) (k : spotB c d = true) : Calls Try.prog 72 #[.agg #[.int .i64 a, .int .i64 b], .agg #[.int .i64 c, .int .i64 d]] w
    fun e w' => e = .returned (.int .i64 (sqD a b c d)) ∧ Below w.heap.size w w' := by
  obtain ⟨⟨a1, a2⟩, a3, a4⟩ := spotB_iff.1 h
  obtain ⟨⟨b1, b2⟩, b3, b4⟩ := spotB_iff.1 k
  have m1 := sq_bd a1 a2 b1 b2
  have m2 := sq_bd a3 a4 b3 b4
  clear h k
  go_enter Try.func72, Try.ntmps72
  go_wp2
  go_ret
  exact ⟨rfl, by repeat' (first | (with_reducible exact Below.refl _ _) | (with_reducible assumption) | (with_reducible refine Below.alloc ?_ ?_ _) | (with_reducible refine Below.drew ?_) | (with_reducible refine Below.setCell ?_ ?_ _) | (with_reducible refine Below.stepB (by assumption) ?_ ?_) | go_size)⟩
theorem l17Square_any (a b c d : Int) (w : World) (h : spotB a b = true) (k : spotB c d = true) : Calls Try.prog 71 #[.agg #[.int .i64 a, .int .i64 b], .agg #[.int .i64 c, .int .i64 d]] w
    fun e w' => e = .returned (.int .i64 (sqD a b c d)) ∧ Below w.heap.size w w' := by
  obtain ⟨⟨a1, a2⟩, a3, a4⟩ := spotB_iff.1 h
  obtain ⟨⟨b1, b2⟩, b3, b4⟩ := spotB_iff.1 k
  have m1 := sq_bd a1 a2 b1 b2
  have m2 := sq_bd a3 a4 b3 b4
  clear h k
  go_enter Try.func71, Try.ntmps71
  go_wp2
  refine wp_region_later (by kernel_rfl) (by kernel_rfl) (fun hlx => ?_)
  repeat (go_big_quiet_step (fail))
  refine wpQuiet_nil ?_
  clear hlx
  intro w1 hbw1
  obtain ⟨hzw1, hcw1, hfw1⟩ := bfacts hbw1; (try simp at hzw1 hcw1 hfw1); (try (have : w.heap.size < w1.heap.size := by omega)); (try (have : w.heap.size + 1 < w1.heap.size := by omega)); (try (have : w.heap.size + 1 + 1 < w1.heap.size := by omega)); (try (have : w.heap.size + 1 + 1 + 1 < w1.heap.size := by omega))
  go_wp2
  go_ret
  exact ⟨rfl, by repeat' (first | (with_reducible exact Below.refl _ _) | (with_reducible assumption) | (with_reducible refine Below.alloc ?_ ?_ _) | (with_reducible refine Below.drew ?_) | (with_reducible refine Below.setCell ?_ ?_ _) | (with_reducible refine Below.stepB (by assumption) ?_ ?_) | go_size)⟩
/-- the first of the samples 0 .. k - 1 that is nearest -/
def nearIdx (f : Nat → BS) (x y : Int) : Nat → Nat
  | 0 => 0
  | k + 1 => if sqD (f k).x (f k).y x y < sqD (f (nearIdx f x y k)).x (f (nearIdx f x y k)).y x y then k else nearIdx f x y k
theorem good_lt {f : Nat → BS} : ∀ {n : Nat}, goodUpto f n = true → ∀ k, k < n → okS (f k) = true
  | 0, _, k, h => absurd h (by omega)
  | n + 1, hg, k, h => by
    simp only [goodUpto, Bool.and_eq_true] at hg
    rcases Nat.lt_or_ge k n with h1 | h1
    · exact good_lt hg.1.1 k h1
    · obtain rfl : k = n := by omega
      exact hg.1.2
theorem nearIdx_lt (f : Nat → BS) (x y : Int) : ∀ k, 0 < k → nearIdx f x y k < k
  | 0, h => absurd h (by omega)
  | 1, _ => by unfold nearIdx; split <;> simp [nearIdx]
  | k + 2, _ => by
    have := nearIdx_lt f x y (k + 1) (by omega)
    unfold nearIdx
    split <;> omega
theorem okS_spot {s : BS} (h : okS s = true) : spotB s.x s.y = true := by
  simp only [okS, Bool.and_eq_true] at h
  exact h.1.1.1.1.2
theorem nearIdx_0 {f : Nat → BS} {x y : Int} : nearIdx f x y 0 = 0 := rfl
theorem nearIdx_1 {f : Nat → BS} {x y : Int} : nearIdx f x y 1 = 0 := by simp [nearIdx]
/-- a sample's six cells -/
def BS.arr (s : BS) : Array Value := #[.int .i64 s.id, .int .i64 s.x, .int .i64 s.y, .int .i64 s.mud, .int .i64 s.sand, .int .i64 s.rock]
theorem BlkS.cells {w : World} {g : Nat} {s : BS} (h : Blk w g 29 s.arr) : g < w.heap.size ∧ w.cell? ⟨g, 0, none⟩ = some (.int .i64 s.id) ∧ w.cell? ⟨g, 1, none⟩ = some (.int .i64 s.x) ∧ w.cell? ⟨g, 2, none⟩ = some (.int .i64 s.y) ∧
    w.cell? ⟨g, 3, none⟩ = some (.int .i64 s.mud) ∧ w.cell? ⟨g, 4, none⟩ = some (.int .i64 s.sand) ∧ w.cell? ⟨g, 5, none⟩ = some (.int .i64 s.rock) ∧ (∀ i, w.frozen? ⟨g, i, none⟩ = false) :=
  ⟨h.lt, h.cell 0, h.cell 1, h.cell 2, h.cell 3, h.cell 4, h.cell 5, h.frozen⟩
theorem BlkS.put {w : World} {g : Nat} {s : BS} (h : Blk w g 29 s.arr) (u : BS) :
    Blk ((((((w.setCell ⟨g, 0, none⟩ (.int .i64 u.id)).setCell ⟨g, 1, none⟩ (.int .i64 u.x)).setCell ⟨g, 2, none⟩ (.int .i64 u.y)).setCell ⟨g, 3, none⟩ (.int .i64 u.mud)).setCell ⟨g, 4, none⟩ (.int .i64 u.sand)).setCell ⟨g, 5, none⟩ (.int .i64 u.rock)) g 29 u.arr :=
  (((((h.set_ 0 _).set_ 1 _).set_ 2 _).set_ 3 _).set_ 4 _).set_ 5 _
theorem BlkS.far6 {w : World} {g g' : Nat} {t : TypeId} {cs : Array Value} (h : Blk w g' t cs) (hne : g' ≠ g) (u : BS) :
    Blk ((((((w.setCell ⟨g, 0, none⟩ (.int .i64 u.id)).setCell ⟨g, 1, none⟩ (.int .i64 u.x)).setCell ⟨g, 2, none⟩ (.int .i64 u.y)).setCell ⟨g, 3, none⟩ (.int .i64 u.mud)).setCell ⟨g, 4, none⟩ (.int .i64 u.sand)).setCell ⟨g, 5, none⟩ (.int .i64 u.rock)) g' t cs :=
  (((((h.far hne _).far hne _).far hne _).far hne _).far hne _).far hne _
theorem nearIdx_step {f : Nat → BS} {x y : Int} {k : Nat} (h : sqD (f k).x (f k).y x y < sqD (f (nearIdx f x y k)).x (f (nearIdx f x y k)).y x y) : nearIdx f x y (k + 1) = k := by simp [nearIdx, h]
theorem nearIdx_stay {f : Nat → BS} {x y : Int} {k : Nat} (h : sqD (f (nearIdx f x y k)).x (f (nearIdx f x y k)).y x y ≤ sqD (f k).x (f k).y x y) : nearIdx f x y (k + 1) = nearIdx f x y k := by simp [nearIdx, Int.not_lt.2 h]
def nearOk (f : Nat → BS) (x y : Int) (n : Nat) : Bool := (goodUpto f n && decide (n ≤ 12)) && (decide (0 < n) && spotB x y)
def nearId (f : Nat → BS) (x y : Int) (n : Nat) : Int := if nearOk f x y n = true then (f (nearIdx f x y n)).id else 0
set_option maxHeartbeats 1000000 in
theorem NearestSample_yes (A : Option Addr) (n c : Nat) (f : Nat → BS) (x y : Int) (w : World) (hS : SlS w A n f) (hn : n ≤ 1048576) (hg : goodUpto f n = true) (h12 : n ≤ 12) (h0 : 0 < n) (hp : spotB x y = true) :
    Calls Try.prog 29 #[.slice A n c, .agg #[.int .i64 x, .int .i64 y]] w
    fun e w' => e = .returned (.tuple #[.int .i64 (f (nearIdx f x y n)).id, .bool true]) ∧ Below w.heap.size w w' := by
  have HG := Lib.hid hg
  have hret : (goodUpto f n && decide (n ≤ 12)) = true := by simp [hg, h12]
  have hc0 : ((n : Int) == 0) = false := by simp; omega
  clear hg
  obtain ⟨b, off, rfl, hbl⟩ : ∃ b off, A = some ⟨b, off, none⟩ ∧ b < w.heap.size := by
    obtain ⟨b, off, h1, h2, _⟩ := hS h0
    exact ⟨b, off, h1, h2⟩
  have HS := Lib.hid hS
  clear hS
  go_enter Try.func29, Try.ntmps29
  go_wp2_with fail
  refine (AreSamples_any _ n c f _ (HS.out.below (by repeat' (first | (with_reducible exact Below.refl _ _) | (with_reducible assumption) | (with_reducible refine Below.alloc ?_ ?_ _) | (with_reducible refine Below.drew ?_) | (with_reducible refine Below.setCell ?_ ?_ _) | (with_reducible refine Below.stepB (by assumption) ?_ ?_) | go_size))) hn).mono ?_
  rw [hret]
  rintro e w1 ⟨rfl, hbw1⟩
  obtain ⟨hzw1, hcw1, hfw1⟩ := bfacts hbw1; (try simp at hzw1 hcw1 hfw1); (try (have : w.heap.size < w1.heap.size := by omega)); (try (have : w.heap.size + 1 < w1.heap.size := by omega)); (try (have : w.heap.size + 1 + 1 < w1.heap.size := by omega)); (try (have : w.heap.size + 1 + 1 + 1 < w1.heap.size := by omega))
  clear hret
  go_wp2_with fail
  refine (IsSpot_any _ _ _).mono ?_
  rintro e w2 ⟨rfl, hbw2⟩
  obtain ⟨hzw2, hcw2, hfw2⟩ := bfacts hbw2; (try simp at hzw2 hcw2 hfw2); (try (have : w.heap.size < w2.heap.size := by omega)); (try (have : w.heap.size + 1 < w2.heap.size := by omega)); (try (have : w.heap.size + 1 + 1 < w2.heap.size := by omega)); (try (have : w.heap.size + 1 + 1 + 1 < w2.heap.size := by omega))
  have hb2 : Hid (Below w.heap.size w w2) := Lib.hid (by repeat' (first | (with_reducible exact Below.refl _ _) | (with_reducible assumption) | (with_reducible refine Below.alloc ?_ ?_ _) | (with_reducible refine Below.drew ?_) | (with_reducible refine Below.setCell ?_ ?_ _) | (with_reducible refine Below.stepB (by assumption) ?_ ?_) | go_size))
  obtain ⟨b', off', he, _, hbl2, c0, c1, c2, c3, c4, c5, _⟩ := HS.out.at hb2.out h0
  obtain ⟨rfl, rfl⟩ : b = b' ∧ off = off' := by simpa using he
  clear he
  simp only [Nat.zero_mul, Nat.add_zero] at c0 c1 c2 c3 c4 c5
  go_wp2
  have hB0 : Blk (w2.alloc (.cells (f 0).arr 29)) w2.heap.size 29 (f 0).arr := Blk.new _ _ _
  have hX0 : Blk (w2.alloc (.cells (f 0).arr 29)) w.heap.size 27 #[.int .i64 x, .int .i64 y] := (Blk.new w _ _).below (B := (w.alloc (.cells #[.int .i64 x, .int .i64 y] 27)).heap.size) (by repeat' (first | (with_reducible exact Below.refl _ _) | (with_reducible assumption) | (with_reducible refine Below.alloc ?_ ?_ _) | (with_reducible refine Below.drew ?_) | (with_reducible refine Below.setCell ?_ ?_ _) | (with_reducible refine Below.stepB (by assumption) ?_ ?_) | go_size)) (by simp)
  clear c0 c1 c2 c3 c4 c5
  go_loopw [27] (fun v27 wr => ∃ k : Nat, k ≤ n ∧ v27 = .int .i64 k ∧ Blk wr w2.heap.size 29 (f (nearIdx f x y k)).arr ∧ Blk wr w.heap.size 27 #[.int .i64 x, .int .i64 y] ∧ Below w.heap.size w wr) (fun v27 _ => n - (intOf v27).toNat)
  case atStart => exact ⟨0, by omega, rfl, by rw [nearIdx_0]; exact hB0, hX0, by repeat' (first | (with_reducible exact Below.refl _ _) | (with_reducible assumption) | (with_reducible refine Below.alloc ?_ ?_ _) | (with_reducible refine Below.drew ?_) | (with_reducible refine Below.setCell ?_ ?_ _) | (with_reducible refine Below.stepB (by assumption) ?_ ?_) | go_size)⟩
  case round =>
    clear hB0 hX0
    obtain ⟨k, hk, rfl, hB, hX, hbr⟩ := hrel
    obtain ⟨hxr, hx0, hx1⟩ := hX.two
    have hzr := hbr.size
    obtain ⟨hgr, e0, e1, e2, e3, e4, e5, _⟩ := BlkS.cells hB
    by_cases hlt : k < n
    · obtain ⟨m, hm⟩ : ∃ m, nearIdx f x y k = m := ⟨_, rfl⟩
      have hml : m < n := by
        rcases Nat.eq_zero_or_pos k with rfl | hpos
        · simp [nearIdx] at hm; omega
        · have := nearIdx_lt f x y k hpos; omega
      have hs1 := okS_spot (good_lt HG.out k hlt)
      have hs2 := okS_spot (good_lt HG.out m hml)
      have hst := Lib.hid (fun h => nearIdx_step (f := f) (x := x) (y := y) (k := k) h)
      have hsy := Lib.hid (fun h => nearIdx_stay (f := f) (x := x) (y := y) (k := k) h)
      rw [hm] at hB e0 e1 e2 e3 e4 e5 hst hsy
      have HM := Lib.hid hm
      clear hm
      obtain ⟨b', off', he, _, hbl2, c0, c1, c2, c3, c4, c5, _⟩ := HS.out.at hbr hlt
      obtain ⟨rfl, rfl⟩ : b = b' ∧ off = off' := by simpa using he
      clear he
      go_wp2
      refine wp_region_later (by kernel_rfl) (by kernel_rfl) (fun hlx => ?_)
      repeat (go_big_quiet_step ((go_at_call 72; exact Later.call (squareOf_any _ _ _ _ _ (by assumption) (by assumption)))))
      refine wpQuiet_nil ?_
      clear hlx
      intro w3 hbw3
      obtain ⟨hzw3, hcw3, hfw3⟩ := bfacts hbw3; (try simp at hzw3 hcw3 hfw3); (try (have : w.heap.size < w3.heap.size := by omega)); (try (have : w.heap.size + 1 < w3.heap.size := by omega)); (try (have : w.heap.size + 1 + 1 < w3.heap.size := by omega)); (try (have : w.heap.size + 1 + 1 + 1 < w3.heap.size := by omega))
      have hB3 : Hid (Blk w3 w2.heap.size 29 (f m).arr) := by first | exact hB.below hbw3 hgr | exact (hB.alloc _).below hbw3 (by simp; omega)
      have hX3 : Hid (Blk w3 w.heap.size 27 #[.int .i64 x, .int .i64 y]) := by first | exact hX.below hbw3 hxr | exact (hX.alloc _).below hbw3 (by simp; omega)
      have hne : w.heap.size ≠ w2.heap.size := by omega
      go_wp2
      · have hlt' : sqD (f k).x (f k).y x y < sqD (f m).x (f m).y x y := by assumption
        go_roundw
        case rel => exact ⟨k + 1, by omega, by go_num, by rw [hst.out hlt']; exact BlkS.put hB3.out _, BlkS.far6 hX3.out hne _, by repeat' (first | (with_reducible exact Below.refl _ _) | (with_reducible assumption) | (with_reducible refine Below.alloc ?_ ?_ _) | (with_reducible refine Below.drew ?_) | (with_reducible refine Below.setCell ?_ ?_ _) | (with_reducible refine Below.stepB (by assumption) ?_ ?_) | go_size)⟩
        case measure => simp [intOf]; omega
      · have hge : sqD (f m).x (f m).y x y ≤ sqD (f k).x (f k).y x y := by omega
        go_roundw
        case rel => exact ⟨k + 1, by omega, by go_num, by rw [hsy.out hge]; exact hB3.out, hX3.out, by repeat' (first | (with_reducible exact Below.refl _ _) | (with_reducible assumption) | (with_reducible refine Below.alloc ?_ ?_ _) | (with_reducible refine Below.drew ?_) | (with_reducible refine Below.setCell ?_ ?_ _) | (with_reducible refine Below.stepB (by assumption) ?_ ?_) | go_size)⟩
        case measure => simp [intOf]; omega
    · obtain rfl : k = n := by omega
      go_wp2
      go_ret2
      exact ⟨rfl, by repeat' (first | (with_reducible exact Below.refl _ _) | (with_reducible assumption) | (with_reducible refine Below.alloc ?_ ?_ _) | (with_reducible refine Below.drew ?_) | (with_reducible refine Below.setCell ?_ ?_ _) | (with_reducible refine Below.stepB (by assumption) ?_ ?_) | go_size)⟩
theorem NearestSample_no (A : Option Addr) (n c : Nat) (f : Nat → BS) (x y : Int) (w : World) (hS : SlS w A n f) (hn : n ≤ 1048576) (h : ¬ ((goodUpto f n && decide (n ≤ 12)) = true ∧ 0 < n ∧ spotB x y = true)) :
    Calls Try.prog 29 #[.slice A n c, .agg #[.int .i64 x, .int .i64 y]] w
    fun e w' => e = .returned (.tuple #[.int .i64 0, .bool false]) ∧ Below w.heap.size w w' := by
  obtain ⟨r, hr⟩ : ∃ r, (goodUpto f n && decide (n ≤ 12)) = r := ⟨_, rfl⟩
  have hA := fun W (hb : Below w.heap.size w W) => AreSamples_any A n c f W (hS.below hb) hn
  rw [hr] at h hA
  have HA := Lib.hid hA
  clear hr hA hS
  have hc0 : 0 < n ∨ n = 0 := by omega
  rcases Bool.eq_false_or_eq_true r with rfl | rfl <;> rcases Bool.eq_false_or_eq_true (spotB x y) with hp | hp <;> rcases hc0 with hc1 | rfl
  · exact absurd ⟨rfl, hc1, hp⟩ h
  all_goals
    clear h
    try (have hc0 : ((n : Int) == 0) = false := by simp; omega)
    go_enter Try.func29, Try.ntmps29
    go_wp2_with fail
    refine (HA.out _ (by repeat' (first | (with_reducible exact Below.refl _ _) | (with_reducible assumption) | (with_reducible refine Below.alloc ?_ ?_ _) | (with_reducible refine Below.drew ?_) | (with_reducible refine Below.setCell ?_ ?_ _) | (with_reducible refine Below.stepB (by assumption) ?_ ?_) | go_size))).mono ?_
    rintro e w1 ⟨rfl, hbw1⟩
    obtain ⟨hzw1, hcw1, hfw1⟩ := bfacts hbw1; (try simp at hzw1 hcw1 hfw1); (try (have : w.heap.size < w1.heap.size := by omega)); (try (have : w.heap.size + 1 < w1.heap.size := by omega)); (try (have : w.heap.size + 1 + 1 < w1.heap.size := by omega)); (try (have : w.heap.size + 1 + 1 + 1 < w1.heap.size := by omega))
    go_wp2_with (go_at_call 64; refine (IsSpot_any _ _ _).mono ?_; rintro e w2 ⟨rfl, hbw2⟩; obtain ⟨hzw2, hcw2, hfw2⟩ := bfacts hbw2; (try simp at hzw2 hcw2 hfw2); (try (have : w.heap.size < w2.heap.size := by omega)); (try (have : w.heap.size + 1 < w2.heap.size := by omega)); (try (have : w.heap.size + 1 + 1 < w2.heap.size := by omega)); (try (have : w.heap.size + 1 + 1 + 1 < w2.heap.size := by omega)))
    go_ret2
    exact ⟨rfl, by repeat' (first | (with_reducible exact Below.refl _ _) | (with_reducible assumption) | (with_reducible refine Below.alloc ?_ ?_ _) | (with_reducible refine Below.drew ?_) | (with_reducible refine Below.setCell ?_ ?_ _) | (with_reducible refine Below.stepB (by assumption) ?_ ?_) | go_size)⟩
theorem NearestSample_any (A : Option Addr) (n c : Nat) (f : Nat → BS) (x y : Int) (w : World) (hS : SlS w A n f) (hn : n ≤ 1048576) : Calls Try.prog 29 #[.slice A n c, .agg #[.int .i64 x, .int .i64 y]] w
    fun e w' => e = .returned (.tuple #[.int .i64 (nearId f x y n), .bool (nearOk f x y n)]) ∧ Below w.heap.size w w' := by
  by_cases h : (goodUpto f n && decide (n ≤ 12)) = true ∧ 0 < n ∧ spotB x y = true
  · have e1 : nearOk f x y n = true := by simp only [nearOk, h.1, h.2.1, h.2.2]; rfl
    rw [nearId, e1]
    have h1 := Bool.and_eq_true_iff.1 h.1
    exact NearestSample_yes A n c f x y w hS hn h1.1 (by simpa using h1.2) h.2.1 h.2.2
  · have e1 : nearOk f x y n = false := by
      rcases Bool.eq_false_or_eq_true (nearOk f x y n) with hh | hh
      · simp only [nearOk, Bool.and_eq_true, decide_eq_true_eq] at hh
        exact absurd ⟨by simp [hh], hh.2⟩ h
      · exact hh
    rw [nearId, e1]
    exact NearestSample_no A n c f x y w hS hn h
set_option maxHeartbeats 1000000 in
theorem specNearest_yes (A : Option Addr) (n c : Nat) (f : Nat → BS) (x y : Int) (w : World) (hS : SlS w A n f) (hn : n ≤ 1048576) (hg : goodUpto f n = true) (h12 : n ≤ 12) (h0 : 0 < n) (hp : spotB x y = true) :
    Calls Try.prog 27 #[.slice A n c, .agg #[.int .i64 x, .int .i64 y]] w
    fun e w' => e = .returned (.tuple #[.int .i64 (f (nearIdx f x y n)).id, .bool true]) ∧ Below w.heap.size w w' := by
  have HG := Lib.hid hg
  have hret : (goodUpto f n && decide (n ≤ 12)) = true := by simp [hg, h12]
  have hc0 : ((n : Int) == 0) = false := by simp; omega
  clear hg
  obtain ⟨b, off, rfl, hbl⟩ : ∃ b off, A = some ⟨b, off, none⟩ ∧ b < w.heap.size := by
    obtain ⟨b, off, h1, h2, _⟩ := hS h0
    exact ⟨b, off, h1, h2⟩
  have HS := Lib.hid hS
  clear hS
  go_enter Try.func27, Try.ntmps27
  go_wp2_with fail
  refine (l18Good_any _ n c f _ (HS.out.below (by repeat' (first | (with_reducible exact Below.refl _ _) | (with_reducible assumption) | (with_reducible refine Below.alloc ?_ ?_ _) | (with_reducible refine Below.drew ?_) | (with_reducible refine Below.setCell ?_ ?_ _) | (with_reducible refine Below.stepB (by assumption) ?_ ?_) | go_size))) hn).mono ?_
  rw [hret]
  rintro e w1 ⟨rfl, hbw1⟩
  obtain ⟨hzw1, hcw1, hfw1⟩ := bfacts hbw1; (try simp at hzw1 hcw1 hfw1); (try (have : w.heap.size < w1.heap.size := by omega)); (try (have : w.heap.size + 1 < w1.heap.size := by omega)); (try (have : w.heap.size + 1 + 1 < w1.heap.size := by omega)); (try (have : w.heap.size + 1 + 1 + 1 < w1.heap.size := by omega))
  clear hret
  go_wp2_with fail
  refine (l2Spot_any _ _ _).mono ?_
  rintro e w2 ⟨rfl, hbw2⟩
  obtain ⟨hzw2, hcw2, hfw2⟩ := bfacts hbw2; (try simp at hzw2 hcw2 hfw2); (try (have : w.heap.size < w2.heap.size := by omega)); (try (have : w.heap.size + 1 < w2.heap.size := by omega)); (try (have : w.heap.size + 1 + 1 < w2.heap.size := by omega)); (try (have : w.heap.size + 1 + 1 + 1 < w2.heap.size := by omega))
  have hb2 : Hid (Below w.heap.size w w2) := Lib.hid (by repeat' (first | (with_reducible exact Below.refl _ _) | (with_reducible assumption) | (with_reducible refine Below.alloc ?_ ?_ _) | (with_reducible refine Below.drew ?_) | (with_reducible refine Below.setCell ?_ ?_ _) | (with_reducible refine Below.stepB (by assumption) ?_ ?_) | go_size))
  obtain ⟨b', off', he, _, hbl2, c0, c1, c2, c3, c4, c5, _⟩ := HS.out.at hb2.out h0
  obtain ⟨rfl, rfl⟩ : b = b' ∧ off = off' := by simpa using he
  clear he
  simp only [Nat.zero_mul, Nat.add_zero] at c0 c1 c2 c3 c4 c5
  go_wp2
  have hB0 : Blk (w2.alloc (.cells (f 0).arr 29)) w2.heap.size 29 (f 0).arr := Blk.new _ _ _
  have hX0 : Blk (w2.alloc (.cells (f 0).arr 29)) w.heap.size 27 #[.int .i64 x, .int .i64 y] := (Blk.new w _ _).below (B := (w.alloc (.cells #[.int .i64 x, .int .i64 y] 27)).heap.size) (by repeat' (first | (with_reducible exact Below.refl _ _) | (with_reducible assumption) | (with_reducible refine Below.alloc ?_ ?_ _) | (with_reducible refine Below.drew ?_) | (with_reducible refine Below.setCell ?_ ?_ _) | (with_reducible refine Below.stepB (by assumption) ?_ ?_) | go_size)) (by simp)
  clear c0 c1 c2 c3 c4 c5
  go_loopw [7] (fun v27 wr => ∃ k : Nat, k ≤ n ∧ v27 = .int .i64 k ∧ Blk wr w2.heap.size 29 (f (nearIdx f x y k)).arr ∧ Blk wr w.heap.size 27 #[.int .i64 x, .int .i64 y] ∧ Below w.heap.size w wr) (fun v27 _ => n - (intOf v27).toNat)
  case atStart => exact ⟨1, by omega, rfl, by rw [nearIdx_1]; exact hB0, hX0, by repeat' (first | (with_reducible exact Below.refl _ _) | (with_reducible assumption) | (with_reducible refine Below.alloc ?_ ?_ _) | (with_reducible refine Below.drew ?_) | (with_reducible refine Below.setCell ?_ ?_ _) | (with_reducible refine Below.stepB (by assumption) ?_ ?_) | go_size)⟩
  case round =>
    clear hB0 hX0
    obtain ⟨k, hk, rfl, hB, hX, hbr⟩ := hrel
    obtain ⟨hxr, hx0, hx1⟩ := hX.two
    have hzr := hbr.size
    obtain ⟨hgr, e0, e1, e2, e3, e4, e5, _⟩ := BlkS.cells hB
    by_cases hlt : k < n
    · obtain ⟨m, hm⟩ : ∃ m, nearIdx f x y k = m := ⟨_, rfl⟩
      have hml : m < n := by
        rcases Nat.eq_zero_or_pos k with rfl | hpos
        · simp [nearIdx] at hm; omega
        · have := nearIdx_lt f x y k hpos; omega
      have hs1 := okS_spot (good_lt HG.out k hlt)
      have hs2 := okS_spot (good_lt HG.out m hml)
      have hst := Lib.hid (fun h => nearIdx_step (f := f) (x := x) (y := y) (k := k) h)
      have hsy := Lib.hid (fun h => nearIdx_stay (f := f) (x := x) (y := y) (k := k) h)
      rw [hm] at hB e0 e1 e2 e3 e4 e5 hst hsy
      have HM := Lib.hid hm
      clear hm
      obtain ⟨b', off', he, _, hbl2, c0, c1, c2, c3, c4, c5, _⟩ := HS.out.at hbr hlt
      obtain ⟨rfl, rfl⟩ : b = b' ∧ off = off' := by simpa using he
      clear he
      go_wp2
      refine wp_region_later (by kernel_rfl) (by kernel_rfl) (fun hlx => ?_)
      repeat (go_big_quiet_step ((go_at_call 71; exact Later.call (l17Square_any _ _ _ _ _ (by assumption) (by assumption)))))
      refine wpQuiet_nil ?_
      clear hlx
      intro w3 hbw3
      obtain ⟨hzw3, hcw3, hfw3⟩ := bfacts hbw3; (try simp at hzw3 hcw3 hfw3); (try (have : w.heap.size < w3.heap.size := by omega)); (try (have : w.heap.size + 1 < w3.heap.size := by omega)); (try (have : w.heap.size + 1 + 1 < w3.heap.size := by omega)); (try (have : w.heap.size + 1 + 1 + 1 < w3.heap.size := by omega))
      have hB3 : Hid (Blk w3 w2.heap.size 29 (f m).arr) := by first | exact hB.below hbw3 hgr | exact (hB.alloc _).below hbw3 (by simp; omega)
      have hX3 : Hid (Blk w3 w.heap.size 27 #[.int .i64 x, .int .i64 y]) := by first | exact hX.below hbw3 hxr | exact (hX.alloc _).below hbw3 (by simp; omega)
      have hne : w.heap.size ≠ w2.heap.size := by omega
      go_wp2
      · have hlt' : sqD (f k).x (f k).y x y < sqD (f m).x (f m).y x y := by assumption
        go_roundw
        case rel => exact ⟨k + 1, by omega, by go_num, by rw [hst.out hlt']; exact BlkS.put hB3.out _, BlkS.far6 hX3.out hne _, by repeat' (first | (with_reducible exact Below.refl _ _) | (with_reducible assumption) | (with_reducible refine Below.alloc ?_ ?_ _) | (with_reducible refine Below.drew ?_) | (with_reducible refine Below.setCell ?_ ?_ _) | (with_reducible refine Below.stepB (by assumption) ?_ ?_) | go_size)⟩
        case measure => simp [intOf]; omega
      · have hge : sqD (f m).x (f m).y x y ≤ sqD (f k).x (f k).y x y := by omega
        go_roundw
        case rel => exact ⟨k + 1, by omega, by go_num, by rw [hsy.out hge]; exact hB3.out, hX3.out, by repeat' (first | (with_reducible exact Below.refl _ _) | (with_reducible assumption) | (with_reducible refine Below.alloc ?_ ?_ _) | (with_reducible refine Below.drew ?_) | (with_reducible refine Below.setCell ?_ ?_ _) | (with_reducible refine Below.stepB (by assumption) ?_ ?_) | go_size)⟩
        case measure => simp [intOf]; omega
    · obtain rfl : k = n := by omega
      go_wp2
      go_ret2
      exact ⟨rfl, by repeat' (first | (with_reducible exact Below.refl _ _) | (with_reducible assumption) | (with_reducible refine Below.alloc ?_ ?_ _) | (with_reducible refine Below.drew ?_) | (with_reducible refine Below.setCell ?_ ?_ _) | (with_reducible refine Below.stepB (by assumption) ?_ ?_) | go_size)⟩
theorem specNearest_no (A : Option Addr) (n c : Nat) (f : Nat → BS) (x y : Int) (w : World) (hS : SlS w A n f) (hn : n ≤ 1048576) (h : ¬ ((goodUpto f n && decide (n ≤ 12)) = true ∧ 0 < n ∧ spotB x y = true)) :
    Calls Try.prog 27 #[.slice A n c, .agg #[.int .i64 x, .int .i64 y]] w
    fun e w' => e = .returned (.tuple #[.int .i64 0, .bool false]) ∧ Below w.heap.size w w' := by
  obtain ⟨r, hr⟩ : ∃ r, (goodUpto f n && decide (n ≤ 12)) = r := ⟨_, rfl⟩
  have hA := fun W (hb : Below w.heap.size w W) => l18Good_any A n c f W (hS.below hb) hn
  rw [hr] at h hA
  have HA := Lib.hid hA
  clear hr hA hS
  have hc0 : 0 < n ∨ n = 0 := by omega
  rcases Bool.eq_false_or_eq_true r with rfl | rfl <;> rcases Bool.eq_false_or_eq_true (spotB x y) with hp | hp <;> rcases hc0 with hc1 | rfl
  · exact absurd ⟨rfl, hc1, hp⟩ h
  all_goals
    clear h
    try (have hc0 : ((n : Int) == 0) = false := by simp; omega)
    go_enter Try.func27, Try.ntmps27
    go_wp2_with fail
    refine (HA.out _ (by repeat' (first | (with_reducible exact Below.refl _ _) | (with_reducible assumption) | (with_reducible refine Below.alloc ?_ ?_ _) | (with_reducible refine Below.drew ?_) | (with_reducible refine Below.setCell ?_ ?_ _) | (with_reducible refine Below.stepB (by assumption) ?_ ?_) | go_size))).mono ?_
    rintro e w1 ⟨rfl, hbw1⟩
    obtain ⟨hzw1, hcw1, hfw1⟩ := bfacts hbw1; (try simp at hzw1 hcw1 hfw1); (try (have : w.heap.size < w1.heap.size := by omega)); (try (have : w.heap.size + 1 < w1.heap.size := by omega)); (try (have : w.heap.size + 1 + 1 < w1.heap.size := by omega)); (try (have : w.heap.size + 1 + 1 + 1 < w1.heap.size := by omega))
    go_wp2_with (go_at_call 70; refine (l2Spot_any _ _ _).mono ?_; rintro e w2 ⟨rfl, hbw2⟩; obtain ⟨hzw2, hcw2, hfw2⟩ := bfacts hbw2; (try simp at hzw2 hcw2 hfw2); (try (have : w.heap.size < w2.heap.size := by omega)); (try (have : w.heap.size + 1 < w2.heap.size := by omega)); (try (have : w.heap.size + 1 + 1 < w2.heap.size := by omega)); (try (have : w.heap.size + 1 + 1 + 1 < w2.heap.size := by omega)))
    go_ret2
    exact ⟨rfl, by repeat' (first | (with_reducible exact Below.refl _ _) | (with_reducible assumption) | (with_reducible refine Below.alloc ?_ ?_ _) | (with_reducible refine Below.drew ?_) | (with_reducible refine Below.setCell ?_ ?_ _) | (with_reducible refine Below.stepB (by assumption) ?_ ?_) | go_size)⟩
theorem specNearest_any (A : Option Addr) (n c : Nat) (f : Nat → BS) (x y : Int) (w : World) (hS : SlS w A n f) (hn : n ≤ 1048576) : Calls Try.prog 27 #[.slice A n c, .agg #[.int .i64 x, .int .i64 y]] w
    fun e w' => e = .returned (.tuple #[.int .i64 (nearId f x y n), .bool (nearOk f x y n)]) ∧ Below w.heap.size w w' := by
  by_cases h : (goodUpto f n && decide (n ≤ 12)) = true ∧ 0 < n ∧ spotB x y = true
  · have e1 : nearOk f x y n = true := by simp only [nearOk, h.1, h.2.1, h.2.2]; rfl
    rw [nearId, e1]
    have h1 := Bool.and_eq_true_iff.1 h.1
    exact specNearest_yes A n c f x y w hS hn h1.1 (by simpa using h1.2) h.2.1 h.2.2
  · have e1 : nearOk f x y n = false := by
      rcases Bool.eq_false_or_eq_true (nearOk f x y n) with hh | hh
      · simp only [nearOk, Bool.and_eq_true, decide_eq_true_eq] at hh
        exact absurd ⟨by simp [hh], hh.2⟩ h
      · exact hh
    rw [nearId, e1]
    exact specNearest_no A n c f x y w hS hn h
end Go.Proofs.Ytfecepjdjikenaa
