/- Contracts of the functions that average the samples near a spot. -/
import Derived.Test.YtfecepjdjikenaaNear
namespace Go.Proofs.Ytfecepjdjikenaa
open Go.RowKit
theorem isFar_any (n : Int) (w : World) : Calls Try.prog 74 #[.int .i64 n] w fun e w' => e = .returned (.bool (inB n 0 2000)) ∧ w = w' := by
  go_enter Try.func74, Try.ntmps74
  go_wp2_with (go_at_call 63; refine (inside_any _ _ _ _).mono ?_; rintro e w' ⟨rfl, rfl⟩)
  go_ret
  exact ⟨rfl, rfl⟩
theorem l17Far_any (n : Int) (w : World) : Calls Try.prog 73 #[.int .i64 n] w fun e w' => e = .returned (.bool (inB n 0 2000)) ∧ w = w' := by
  go_enter Try.func73, Try.ntmps73
  go_wp2_with (go_at_call 92; refine (l1In_any _ _ _ _).mono ?_; rintro e w' ⟨rfl, rfl⟩)
  go_ret
  exact ⟨rfl, rfl⟩
theorem far_bd {n : Int} (h : inB n 0 2000 = true) : 0 ≤ n * n ∧ n * n ≤ 4000000 := by
  obtain ⟨h1, h2⟩ := inB_iff.1 h
  have := Int.mul_le_mul h2 h2 h1 (by decide)
  exact ⟨Int.mul_nonneg h1 h1, by omega⟩
/-- the sum of h over the chosen ones of 0 .. k - 1 -/
def sumIf (p : Nat → Bool) (h : Nat → Int) : Nat → Int
  | 0 => 0
  | k + 1 => sumIf p h k + (if p k = true then h k else 0)
theorem sumIf_hit {p : Nat → Bool} {h : Nat → Int} {k : Nat} (hp : p k = true) : sumIf p h (k + 1) = sumIf p h k + h k := by simp [sumIf, hp]
theorem sumIf_miss {p : Nat → Bool} {h : Nat → Int} {k : Nat} (hp : p k = false) : sumIf p h (k + 1) = sumIf p h k := by simp [sumIf, hp]
theorem sumIf_bd {p : Nat → Bool} {h : Nat → Int} {n : Nat} {M : Int} (hM : 0 ≤ M) (hb : ∀ i, i < n → 0 ≤ h i ∧ h i ≤ M) : ∀ k, k ≤ n → 0 ≤ sumIf p h k ∧ sumIf p h k ≤ M * k
  | 0, _ => by simp [sumIf]
  | k + 1, hk => by
    have h1 := sumIf_bd (p := p) hM hb k (by omega)
    have h2 := hb k (by omega)
    have e : M * ((k + 1 : Nat) : Int) = M * k + M := by rw [Int.natCast_add, Int.mul_add]; simp
    rw [e]
    unfold sumIf
    split <;> omega
def nearP (f : Nat → BS) (x y far : Int) (i : Nat) : Bool := decide (sqD (f i).x (f i).y x y ≤ far * far)
def meanOk (f : Nat → BS) (x y far : Int) (n : Nat) : Bool := (goodUpto f n && decide (n ≤ 12)) && (spotB x y && (inB far 0 2000 && !decide (sumIf (nearP f x y far) (fun _ => 1) n = 0)))
def meanV (f : Nat → BS) (x y far : Int) (n : Nat) (h : BS → Int) : Int := if meanOk f x y far n = true then sumIf (nearP f x y far) (fun i => h (f i)) n / sumIf (nearP f x y far) (fun _ => 1) n else 0
set_option maxHeartbeats 1000000 in
theorem MeanBottom_yes (A : Option Addr) (n c : Nat) (f : Nat → BS) (x y far : Int) (w : World) (hS : SlS w A n f) (hn : n ≤ 1048576) (hg : goodUpto f n = true) (h12 : n ≤ 12) (hp : spotB x y = true) (hf : inB far 0 2000 = true) :
    Calls Try.prog 31 #[.slice A n c, .agg #[.int .i64 x, .int .i64 y], .int .i64 far] w
    fun e w' => e = .returned (.tuple #[.int .i64 (meanV f x y far n BS.mud), .int .i64 (meanV f x y far n BS.sand), .int .i64 (meanV f x y far n BS.rock), .bool (meanOk f x y far n)]) ∧ Below w.heap.size w w' := by
  have HG := Lib.hid hg
  have hret : (goodUpto f n && decide (n ≤ 12)) = true := by simp [hg, h12]
  have hff := far_bd hf
  clear hg
  have HS := Lib.hid hS
  clear hS
  go_enter Try.func31, Try.ntmps31
  go_wp2_with fail
  refine (AreSamples_any _ n c f _ (HS.out.below (by repeat' (first | (with_reducible exact Below.refl _ _) | (with_reducible assumption) | (with_reducible refine Below.alloc ?_ ?_ _) | (with_reducible refine Below.drew ?_) | (with_reducible refine Below.setCell ?_ ?_ _) | (with_reducible refine Below.stepB (by assumption) ?_ ?_) | go_size))) hn).mono ?_
  rw [hret]
  rintro e w1 ⟨rfl, hbw1⟩
  obtain ⟨hzw1, hcw1, hfw1⟩ := bfacts hbw1; (try simp at hzw1 hcw1 hfw1); (try (have : w.heap.size < w1.heap.size := by omega)); (try (have : w.heap.size + 1 < w1.heap.size := by omega)); (try (have : w.heap.size + 1 + 1 < w1.heap.size := by omega)); (try (have : w.heap.size + 1 + 1 + 1 < w1.heap.size := by omega))
  have hret := Lib.hid hret
  go_wp2_with fail
  refine (IsSpot_any _ _ _).mono ?_
  rintro e w2 ⟨rfl, hbw2⟩
  obtain ⟨hzw2, hcw2, hfw2⟩ := bfacts hbw2; (try simp at hzw2 hcw2 hfw2); (try (have : w.heap.size < w2.heap.size := by omega)); (try (have : w.heap.size + 1 < w2.heap.size := by omega)); (try (have : w.heap.size + 1 + 1 < w2.heap.size := by omega)); (try (have : w.heap.size + 1 + 1 + 1 < w2.heap.size := by omega))
  have hX0 : Blk w2 w.heap.size 27 #[.int .i64 x, .int .i64 y] := (Blk.new w _ _).below (B := (w.alloc (.cells #[.int .i64 x, .int .i64 y] 27)).heap.size) (by repeat' (first | (with_reducible exact Below.refl _ _) | (with_reducible assumption) | (with_reducible refine Below.alloc ?_ ?_ _) | (with_reducible refine Below.drew ?_) | (with_reducible refine Below.setCell ?_ ?_ _) | (with_reducible refine Below.stepB (by assumption) ?_ ?_) | go_size)) (by simp)
  have hb2 : Hid (Below w.heap.size w w2) := Lib.hid (by repeat' (first | (with_reducible exact Below.refl _ _) | (with_reducible assumption) | (with_reducible refine Below.alloc ?_ ?_ _) | (with_reducible refine Below.drew ?_) | (with_reducible refine Below.setCell ?_ ?_ _) | (with_reducible refine Below.stepB (by assumption) ?_ ?_) | go_size))
  go_wp2_with (go_at_call 74; refine (isFar_any _ _).mono ?_; rintro e w' ⟨rfl, rfl⟩)
  go_loopw [10, 11, 12, 13, 31] (fun v10 v11 v12 v13 vc wr => ∃ k : Nat, k ≤ n ∧ vc = .int .i64 k ∧ v10 = .int .i64 (sumIf (nearP f x y far) (fun i => (f i).mud) k) ∧ v11 = .int .i64 (sumIf (nearP f x y far) (fun i => (f i).sand) k) ∧ v12 = .int .i64 (sumIf (nearP f x y far) (fun i => (f i).rock) k) ∧ v13 = .int .i64 (sumIf (nearP f x y far) (fun _ => 1) k) ∧ Blk wr w.heap.size 27 #[.int .i64 x, .int .i64 y] ∧ Below w.heap.size w wr) (fun _ _ _ _ vc _ => n - (intOf vc).toNat)
  case atStart => exact ⟨0, Nat.zero_le _, rfl, rfl, rfl, rfl, rfl, hX0, hb2.out⟩
  case round =>
    clear hX0
    obtain ⟨k, hk, rfl, rfl, rfl, rfl, rfl, hX, hbr⟩ := hrel
    have hzr := hbr.size
    obtain ⟨hxr, hx0, hx1⟩ := hX.two
    have hall := Lib.hid (good_lt HG.out)
    have b1 := sumIf_bd (p := nearP f x y far) (h := fun i => (f i).mud) (M := 100) (by decide) (fun i hi => (okS_bd (hall.out i hi)).1.2.2.1) k hk
    have b2 := sumIf_bd (p := nearP f x y far) (h := fun i => (f i).sand) (M := 100) (by decide) (fun i hi => (okS_bd (hall.out i hi)).1.2.2.2.1) k hk
    have b3 := sumIf_bd (p := nearP f x y far) (h := fun i => (f i).rock) (M := 100) (by decide) (fun i hi => (okS_bd (hall.out i hi)).1.2.2.2.2) k hk
    have b4 := sumIf_bd (p := nearP f x y far) (h := fun _ => 1) (M := 1) (by decide) (fun i hi => by decide) k hk
    obtain ⟨s1, e1⟩ : ∃ s, sumIf (nearP f x y far) (fun i => (f i).mud) k = s := ⟨_, rfl⟩
    obtain ⟨s2, e2⟩ : ∃ s, sumIf (nearP f x y far) (fun i => (f i).sand) k = s := ⟨_, rfl⟩
    obtain ⟨s3, e3⟩ : ∃ s, sumIf (nearP f x y far) (fun i => (f i).rock) k = s := ⟨_, rfl⟩
    obtain ⟨s4, e4⟩ : ∃ s, sumIf (nearP f x y far) (fun _ => 1) k = s := ⟨_, rfl⟩
    by_cases hlt : k < n
    · have hs1 := okS_spot (hall.out k hlt)
      obtain ⟨⟨_, _, ⟨m1, m2⟩, ⟨m3, m4⟩, ⟨m5, m6⟩⟩, _⟩ := okS_bd (hall.out k hlt)
      have hy : Hid (sqD (f k).x (f k).y x y ≤ far * far → sumIf (nearP f x y far) (fun i => (f i).mud) (k + 1) = s1 + (f k).mud ∧ sumIf (nearP f x y far) (fun i => (f i).sand) (k + 1) = s2 + (f k).sand ∧ sumIf (nearP f x y far) (fun i => (f i).rock) (k + 1) = s3 + (f k).rock ∧ sumIf (nearP f x y far) (fun _ => 1) (k + 1) = s4 + 1) := fun h => by
        have hh : nearP f x y far k = true := by simp [nearP, h]
        rw [sumIf_hit hh, sumIf_hit hh, sumIf_hit hh, sumIf_hit hh, e1, e2, e3, e4]
        exact ⟨rfl, rfl, rfl, rfl⟩
      have hz : Hid (far * far < sqD (f k).x (f k).y x y → sumIf (nearP f x y far) (fun i => (f i).mud) (k + 1) = s1 ∧ sumIf (nearP f x y far) (fun i => (f i).sand) (k + 1) = s2 ∧ sumIf (nearP f x y far) (fun i => (f i).rock) (k + 1) = s3 ∧ sumIf (nearP f x y far) (fun _ => 1) (k + 1) = s4) := fun h => by
        have hh : nearP f x y far k = false := by simp [nearP]; omega
        rw [sumIf_miss hh, sumIf_miss hh, sumIf_miss hh, sumIf_miss hh, e1, e2, e3, e4]
        exact ⟨rfl, rfl, rfl, rfl⟩
      rw [e1] at b1
      rw [e2] at b2
      rw [e3] at b3
      rw [e4] at b4
      rw [e1, e2, e3, e4]
      clear e1 e2 e3 e4
      obtain ⟨b, off, rfl, hbl, hbl2, c0, c1, c2, c3, c4, c5, _⟩ := HS.out.at hbr hlt
      go_wp2_with fail
      refine (squareOf_any _ _ _ _ _ (by assumption) (by assumption)).mono ?_
      rintro e w3 ⟨rfl, hbw3⟩
      obtain ⟨hzw3, hcw3, hfw3⟩ := bfacts hbw3; (try simp at hzw3 hcw3 hfw3); (try (have : w.heap.size < w3.heap.size := by omega)); (try (have : w.heap.size + 1 < w3.heap.size := by omega)); (try (have : w.heap.size + 1 + 1 < w3.heap.size := by omega)); (try (have : w.heap.size + 1 + 1 + 1 < w3.heap.size := by omega))
      have hX3 : Hid (Blk w3 w.heap.size 27 #[.int .i64 x, .int .i64 y]) := by first | exact hX.below hbw3 hxr | exact (hX.alloc _).below hbw3 (by simp; omega)
      go_wp2
      · have hlt' : sqD (f k).x (f k).y x y ≤ far * far := by assumption
        obtain ⟨g1, g2, g3, g4⟩ := hy.out hlt'
        go_roundw
        case rel => exact ⟨k + 1, by omega, by go_num, by rw [g1], by rw [g2], by rw [g3], by rw [g4], hX3.out, by repeat' (first | (with_reducible exact Below.refl _ _) | (with_reducible assumption) | (with_reducible refine Below.alloc ?_ ?_ _) | (with_reducible refine Below.drew ?_) | (with_reducible refine Below.setCell ?_ ?_ _) | (with_reducible refine Below.stepB (by assumption) ?_ ?_) | go_size)⟩
        case measure => simp [intOf]; omega
      · have hlt' : far * far < sqD (f k).x (f k).y x y := by omega
        obtain ⟨g1, g2, g3, g4⟩ := hz.out hlt'
        go_roundw
        case rel => exact ⟨k + 1, by omega, by go_num, by rw [g1], by rw [g2], by rw [g3], by rw [g4], hX3.out, by repeat' (first | (with_reducible exact Below.refl _ _) | (with_reducible assumption) | (with_reducible refine Below.alloc ?_ ?_ _) | (with_reducible refine Below.drew ?_) | (with_reducible refine Below.setCell ?_ ?_ _) | (with_reducible refine Below.stepB (by assumption) ?_ ?_) | go_size)⟩
        case measure => simp [intOf]; omega
    · obtain rfl : k = n := by omega
      have hok : Hid (meanOk f x y far k = !decide (s4 = 0)) := by
        show _ = _
        rw [← e4]
        simp only [meanOk, hret.out, hp, hf, Bool.true_and]
      have hv : Hid (∀ h : BS → Int, meanV f x y far k h = if meanOk f x y far k = true then sumIf (nearP f x y far) (fun i => h (f i)) k / s4 else 0) := fun h => by rw [← e4]; rfl
      have v1 := Lib.hid (hv.out BS.mud)
      have v2 := Lib.hid (hv.out BS.sand)
      have v3 := Lib.hid (hv.out BS.rock)
      rw [e1] at b1 v1
      rw [e2] at b2 v2
      rw [e3] at b3 v3
      rw [e4] at b4
      rw [e1, e2, e3, e4]
      clear e1 e2 e3 e4 hX hx0 hx1
      by_cases h0 : s4 = 0
      · subst h0
        go_wp2
        refine bodyPost_ret (results_tmp4 rfl _ _ _) rfl ?_
        refine ⟨?_, by repeat' (first | (with_reducible exact Below.refl _ _) | (with_reducible assumption) | (with_reducible refine Below.alloc ?_ ?_ _) | (with_reducible refine Below.drew ?_) | (with_reducible refine Below.setCell ?_ ?_ _) | (with_reducible refine Below.stepB (by assumption) ?_ ?_) | go_size)⟩
        rw [v1.out, v2.out, v3.out, hok.out]
        rfl
      · have h00 : (s4 == 0) = false := by simp [h0]
        have hpos : 0 < s4 := by omega
        have H0 := Lib.hid h0
        go_wp2
        refine wp_region_later (by kernel_rfl) (by kernel_rfl) (fun hlx => ?_)
        repeat (go_big_quiet_step (fail))
        refine wpQuiet_nil ?_
        clear hlx
        intro w9 hbw9
        obtain ⟨hzw9, hcw9, hfw9⟩ := bfacts hbw9; (try simp at hzw9 hcw9 hfw9); (try (have : w.heap.size < w9.heap.size := by omega)); (try (have : w.heap.size + 1 < w9.heap.size := by omega)); (try (have : w.heap.size + 1 + 1 < w9.heap.size := by omega)); (try (have : w.heap.size + 1 + 1 + 1 < w9.heap.size := by omega))
        go_wp2
        refine bodyPost_ret (results_tmp4 rfl _ _ _) rfl ?_
        refine ⟨?_, by repeat' (first | (with_reducible exact Below.refl _ _) | (with_reducible assumption) | (with_reducible refine Below.alloc ?_ ?_ _) | (with_reducible refine Below.drew ?_) | (with_reducible refine Below.setCell ?_ ?_ _) | (with_reducible refine Below.stepB (by assumption) ?_ ?_) | go_size)⟩
        rw [v1.out, v2.out, v3.out, hok.out]
        simp [H0.out]
theorem MeanBottom_no (A : Option Addr) (n c : Nat) (f : Nat → BS) (x y far : Int) (w : World) (hS : SlS w A n f) (hn : n ≤ 1048576) (h : ¬ ((goodUpto f n && decide (n ≤ 12)) = true ∧ spotB x y = true ∧ inB far 0 2000 = true)) :
    Calls Try.prog 31 #[.slice A n c, .agg #[.int .i64 x, .int .i64 y], .int .i64 far] w
    fun e w' => e = .returned (.tuple #[.int .i64 0, .int .i64 0, .int .i64 0, .bool false]) ∧ Below w.heap.size w w' := by
  obtain ⟨r, hr⟩ : ∃ r, (goodUpto f n && decide (n ≤ 12)) = r := ⟨_, rfl⟩
  have hA := fun W (hb : Below w.heap.size w W) => AreSamples_any A n c f W (hS.below hb) hn
  rw [hr] at h hA
  have HA := Lib.hid hA
  clear hr hA hS
  rcases Bool.eq_false_or_eq_true r with rfl | rfl <;> rcases Bool.eq_false_or_eq_true (spotB x y) with hp | hp <;> rcases Bool.eq_false_or_eq_true (inB far 0 2000) with hf | hf
  · exact absurd ⟨rfl, hp, hf⟩ h
  all_goals
    clear h
    go_enter Try.func31, Try.ntmps31
    go_wp2_with fail
    refine (HA.out _ (by repeat' (first | (with_reducible exact Below.refl _ _) | (with_reducible assumption) | (with_reducible refine Below.alloc ?_ ?_ _) | (with_reducible refine Below.drew ?_) | (with_reducible refine Below.setCell ?_ ?_ _) | (with_reducible refine Below.stepB (by assumption) ?_ ?_) | go_size))).mono ?_
    rintro e w1 ⟨rfl, hbw1⟩
    obtain ⟨hzw1, hcw1, hfw1⟩ := bfacts hbw1; (try simp at hzw1 hcw1 hfw1); (try (have : w.heap.size < w1.heap.size := by omega)); (try (have : w.heap.size + 1 < w1.heap.size := by omega)); (try (have : w.heap.size + 1 + 1 < w1.heap.size := by omega)); (try (have : w.heap.size + 1 + 1 + 1 < w1.heap.size := by omega))
    go_wp2_with (first | (go_at_call 64; refine (IsSpot_any _ _ _).mono ?_; rintro e w2 ⟨rfl, hbw2⟩; obtain ⟨hzw2, hcw2, hfw2⟩ := bfacts hbw2; (try simp at hzw2 hcw2 hfw2); (try (have : w.heap.size < w2.heap.size := by omega)); (try (have : w.heap.size + 1 < w2.heap.size := by omega)); (try (have : w.heap.size + 1 + 1 < w2.heap.size := by omega)); (try (have : w.heap.size + 1 + 1 + 1 < w2.heap.size := by omega))) | (go_at_call 74; refine (isFar_any _ _).mono ?_; rintro e w' ⟨rfl, rfl⟩))
    refine bodyPost_ret (results_tmp4 rfl _ _ _) rfl ?_
    exact ⟨rfl, by repeat' (first | (with_reducible exact Below.refl _ _) | (with_reducible assumption) | (with_reducible refine Below.alloc ?_ ?_ _) | (with_reducible refine Below.drew ?_) | (with_reducible refine Below.setCell ?_ ?_ _) | (with_reducible refine Below.stepB (by assumption) ?_ ?_) | go_size)⟩
theorem MeanBottom_any (A : Option Addr) (n c : Nat) (f : Nat → BS) (x y far : Int) (w : World) (hS : SlS w A n f) (hn : n ≤ 1048576) :
    Calls Try.prog 31 #[.slice A n c, .agg #[.int .i64 x, .int .i64 y], .int .i64 far] w
    fun e w' => e = .returned (.tuple #[.int .i64 (meanV f x y far n BS.mud), .int .i64 (meanV f x y far n BS.sand), .int .i64 (meanV f x y far n BS.rock), .bool (meanOk f x y far n)]) ∧ Below w.heap.size w w' := by
  by_cases h : (goodUpto f n && decide (n ≤ 12)) = true ∧ spotB x y = true ∧ inB far 0 2000 = true
  · have h1 := Bool.and_eq_true_iff.1 h.1
    exact MeanBottom_yes A n c f x y far w hS hn h1.1 (by simpa using h1.2) h.2.1 h.2.2
  · have e1 : meanOk f x y far n = false := by
      rcases Bool.eq_false_or_eq_true (meanOk f x y far n) with hh | hh
      · simp only [meanOk, Bool.and_eq_true] at hh
        exact absurd ⟨by simp [hh], hh.2.1, hh.2.2.1⟩ h
      · exact hh
    have e2 : ∀ h, meanV f x y far n h = 0 := fun h => by simp [meanV, e1]
    rw [e1, e2, e2, e2]
    exact MeanBottom_no A n c f x y far w hS hn h
set_option maxHeartbeats 1000000 in
theorem specMean_yes (A : Option Addr) (n c : Nat) (f : Nat → BS) (x y far : Int) (w : World) (hS : SlS w A n f) (hn : n ≤ 1048576) (hg : goodUpto f n = true) (h12 : n ≤ 12) (hp : spotB x y = true) (hf : inB far 0 2000 = true) :
    Calls Try.prog 30 #[.slice A n c, .agg #[.int .i64 x, .int .i64 y], .int .i64 far] w
    fun e w' => e = .returned (.tuple #[.int .i64 (meanV f x y far n BS.mud), .int .i64 (meanV f x y far n BS.sand), .int .i64 (meanV f x y far n BS.rock), .bool (meanOk f x y far n)]) ∧ Below w.heap.size w w' := by
  have HG := Lib.hid hg
  have hret : (goodUpto f n && decide (n ≤ 12)) = true := by simp [hg, h12]
  have hff := far_bd hf
  clear hg
  have HS := Lib.hid hS
  clear hS
  go_enter Try.func30, Try.ntmps30
  go_wp2_with fail
  refine (l18Good_any _ n c f _ (HS.out.below (by repeat' (first | (with_reducible exact Below.refl _ _) | (with_reducible assumption) | (with_reducible refine Below.alloc ?_ ?_ _) | (with_reducible refine Below.drew ?_) | (with_reducible refine Below.setCell ?_ ?_ _) | (with_reducible refine Below.stepB (by assumption) ?_ ?_) | go_size))) hn).mono ?_
  rw [hret]
  rintro e w1 ⟨rfl, hbw1⟩
  obtain ⟨hzw1, hcw1, hfw1⟩ := bfacts hbw1; (try simp at hzw1 hcw1 hfw1); (try (have : w.heap.size < w1.heap.size := by omega)); (try (have : w.heap.size + 1 < w1.heap.size := by omega)); (try (have : w.heap.size + 1 + 1 < w1.heap.size := by omega)); (try (have : w.heap.size + 1 + 1 + 1 < w1.heap.size := by omega))
  have hret := Lib.hid hret
  go_wp2_with fail
  refine (l2Spot_any _ _ _).mono ?_
  rintro e w2 ⟨rfl, hbw2⟩
  obtain ⟨hzw2, hcw2, hfw2⟩ := bfacts hbw2; (try simp at hzw2 hcw2 hfw2); (try (have : w.heap.size < w2.heap.size := by omega)); (try (have : w.heap.size + 1 < w2.heap.size := by omega)); (try (have : w.heap.size + 1 + 1 < w2.heap.size := by omega)); (try (have : w.heap.size + 1 + 1 + 1 < w2.heap.size := by omega))
  have hX0 : Blk w2 w.heap.size 27 #[.int .i64 x, .int .i64 y] := (Blk.new w _ _).below (B := (w.alloc (.cells #[.int .i64 x, .int .i64 y] 27)).heap.size) (by repeat' (first | (with_reducible exact Below.refl _ _) | (with_reducible assumption) | (with_reducible refine Below.alloc ?_ ?_ _) | (with_reducible refine Below.drew ?_) | (with_reducible refine Below.setCell ?_ ?_ _) | (with_reducible refine Below.stepB (by assumption) ?_ ?_) | go_size)) (by simp)
  have hb2 : Hid (Below w.heap.size w w2) := Lib.hid (by repeat' (first | (with_reducible exact Below.refl _ _) | (with_reducible assumption) | (with_reducible refine Below.alloc ?_ ?_ _) | (with_reducible refine Below.drew ?_) | (with_reducible refine Below.setCell ?_ ?_ _) | (with_reducible refine Below.stepB (by assumption) ?_ ?_) | go_size))
  go_wp2_with (go_at_call 73; refine (l17Far_any _ _).mono ?_; rintro e w' ⟨rfl, rfl⟩)
  go_loopw [10, 11, 12, 13, 14] (fun v10 v11 v12 v13 vc wr => ∃ k : Nat, k ≤ n ∧ vc = .int .i64 k ∧ v10 = .int .i64 (sumIf (nearP f x y far) (fun i => (f i).mud) k) ∧ v11 = .int .i64 (sumIf (nearP f x y far) (fun i => (f i).sand) k) ∧ v12 = .int .i64 (sumIf (nearP f x y far) (fun i => (f i).rock) k) ∧ v13 = .int .i64 (sumIf (nearP f x y far) (fun _ => 1) k) ∧ Blk wr w.heap.size 27 #[.int .i64 x, .int .i64 y] ∧ Below w.heap.size w wr) (fun _ _ _ _ vc _ => n - (intOf vc).toNat)
  case atStart => exact ⟨0, Nat.zero_le _, rfl, rfl, rfl, rfl, rfl, hX0, hb2.out⟩
  case round =>
    clear hX0
    obtain ⟨k, hk, rfl, rfl, rfl, rfl, rfl, hX, hbr⟩ := hrel
    have hzr := hbr.size
    obtain ⟨hxr, hx0, hx1⟩ := hX.two
    have hall := Lib.hid (good_lt HG.out)
    have b1 := sumIf_bd (p := nearP f x y far) (h := fun i => (f i).mud) (M := 100) (by decide) (fun i hi => (okS_bd (hall.out i hi)).1.2.2.1) k hk
    have b2 := sumIf_bd (p := nearP f x y far) (h := fun i => (f i).sand) (M := 100) (by decide) (fun i hi => (okS_bd (hall.out i hi)).1.2.2.2.1) k hk
    have b3 := sumIf_bd (p := nearP f x y far) (h := fun i => (f i).rock) (M := 100) (by decide) (fun i hi => (okS_bd (hall.out i hi)).1.2.2.2.2) k hk
    have b4 := sumIf_bd (p := nearP f x y far) (h := fun _ => 1) (M := 1) (by decide) (fun i hi => by decide) k hk
    obtain ⟨s1, e1⟩ : ∃ s, sumIf (nearP f x y far) (fun i => (f i).mud) k = s := ⟨_, rfl⟩
    obtain ⟨s2, e2⟩ : ∃ s, sumIf (nearP f x y far) (fun i => (f i).sand) k = s := ⟨_, rfl⟩
    obtain ⟨s3, e3⟩ : ∃ s, sumIf (nearP f x y far) (fun i => (f i).rock) k = s := ⟨_, rfl⟩
    obtain ⟨s4, e4⟩ : ∃ s, sumIf (nearP f x y far) (fun _ => 1) k = s := ⟨_, rfl⟩
    by_cases hlt : k < n
    · have hs1 := okS_spot (hall.out k hlt)
      obtain ⟨⟨_, _, ⟨m1, m2⟩, ⟨m3, m4⟩, ⟨m5, m6⟩⟩, _⟩ := okS_bd (hall.out k hlt)
      have hy : Hid (sqD (f k).x (f k).y x y ≤ far * far → sumIf (nearP f x y far) (fun i => (f i).mud) (k + 1) = s1 + (f k).mud ∧ sumIf (nearP f x y far) (fun i => (f i).sand) (k + 1) = s2 + (f k).sand ∧ sumIf (nearP f x y far) (fun i => (f i).rock) (k + 1) = s3 + (f k).rock ∧ sumIf (nearP f x y far) (fun _ => 1) (k + 1) = s4 + 1) := fun h => by
        have hh : nearP f x y far k = true := by simp [nearP, h]
        rw [sumIf_hit hh, sumIf_hit hh, sumIf_hit hh, sumIf_hit hh, e1, e2, e3, e4]
        exact ⟨rfl, rfl, rfl, rfl⟩
      have hz : Hid (far * far < sqD (f k).x (f k).y x y → sumIf (nearP f x y far) (fun i => (f i).mud) (k + 1) = s1 ∧ sumIf (nearP f x y far) (fun i => (f i).sand) (k + 1) = s2 ∧ sumIf (nearP f x y far) (fun i => (f i).rock) (k + 1) = s3 ∧ sumIf (nearP f x y far) (fun _ => 1) (k + 1) = s4) := fun h => by
        have hh : nearP f x y far k = false := by simp [nearP]; omega
        rw [sumIf_miss hh, sumIf_miss hh, sumIf_miss hh, sumIf_miss hh, e1, e2, e3, e4]
        exact ⟨rfl, rfl, rfl, rfl⟩
      rw [e1] at b1
      rw [e2] at b2
      rw [e3] at b3
      rw [e4] at b4
      rw [e1, e2, e3, e4]
      clear e1 e2 e3 e4
      obtain ⟨b, off, rfl, hbl, hbl2, c0, c1, c2, c3, c4, c5, _⟩ := HS.out.at hbr hlt
      go_wp2
      refine wp_region_later (by kernel_rfl) (by kernel_rfl) (fun hlx => ?_)
      repeat (go_big_quiet_step ((go_at_call 71; exact Later.call (l17Square_any _ _ _ _ _ (by assumption) (by assumption)))))
      refine wpQuiet_nil ?_
      clear hlx
      intro w3 hbw3
      obtain ⟨hzw3, hcw3, hfw3⟩ := bfacts hbw3; (try simp at hzw3 hcw3 hfw3); (try (have : w.heap.size < w3.heap.size := by omega)); (try (have : w.heap.size + 1 < w3.heap.size := by omega)); (try (have : w.heap.size + 1 + 1 < w3.heap.size := by omega)); (try (have : w.heap.size + 1 + 1 + 1 < w3.heap.size := by omega))
      have hX3 : Hid (Blk w3 w.heap.size 27 #[.int .i64 x, .int .i64 y]) := by first | exact hX.below hbw3 hxr | exact (hX.alloc _).below hbw3 (by simp; omega)
      go_wp2
      · have hlt' : sqD (f k).x (f k).y x y ≤ far * far := by assumption
        obtain ⟨g1, g2, g3, g4⟩ := hy.out hlt'
        go_roundw
        case rel => exact ⟨k + 1, by omega, by go_num, by rw [g1], by rw [g2], by rw [g3], by rw [g4], hX3.out, by repeat' (first | (with_reducible exact Below.refl _ _) | (with_reducible assumption) | (with_reducible refine Below.alloc ?_ ?_ _) | (with_reducible refine Below.drew ?_) | (with_reducible refine Below.setCell ?_ ?_ _) | (with_reducible refine Below.stepB (by assumption) ?_ ?_) | go_size)⟩
        case measure => simp [intOf]; omega
      · have hlt' : far * far < sqD (f k).x (f k).y x y := by omega
        obtain ⟨g1, g2, g3, g4⟩ := hz.out hlt'
        go_roundw
        case rel => exact ⟨k + 1, by omega, by go_num, by rw [g1], by rw [g2], by rw [g3], by rw [g4], hX3.out, by repeat' (first | (with_reducible exact Below.refl _ _) | (with_reducible assumption) | (with_reducible refine Below.alloc ?_ ?_ _) | (with_reducible refine Below.drew ?_) | (with_reducible refine Below.setCell ?_ ?_ _) | (with_reducible refine Below.stepB (by assumption) ?_ ?_) | go_size)⟩
        case measure => simp [intOf]; omega
    · obtain rfl : k = n := by omega
      have hok : Hid (meanOk f x y far k = !decide (s4 = 0)) := by
        show _ = _
        rw [← e4]
        simp only [meanOk, hret.out, hp, hf, Bool.true_and]
      have hv : Hid (∀ h : BS → Int, meanV f x y far k h = if meanOk f x y far k = true then sumIf (nearP f x y far) (fun i => h (f i)) k / s4 else 0) := fun h => by rw [← e4]; rfl
      have v1 := Lib.hid (hv.out BS.mud)
      have v2 := Lib.hid (hv.out BS.sand)
      have v3 := Lib.hid (hv.out BS.rock)
      rw [e1] at b1 v1
      rw [e2] at b2 v2
      rw [e3] at b3 v3
      rw [e4] at b4
      rw [e1, e2, e3, e4]
      clear e1 e2 e3 e4 hX hx0 hx1
      by_cases h0 : s4 = 0
      · subst h0
        go_wp2
        refine bodyPost_ret (results_tmp4 rfl _ _ _) rfl ?_
        refine ⟨?_, by repeat' (first | (with_reducible exact Below.refl _ _) | (with_reducible assumption) | (with_reducible refine Below.alloc ?_ ?_ _) | (with_reducible refine Below.drew ?_) | (with_reducible refine Below.setCell ?_ ?_ _) | (with_reducible refine Below.stepB (by assumption) ?_ ?_) | go_size)⟩
        rw [v1.out, v2.out, v3.out, hok.out]
        rfl
      · have h00 : (s4 == 0) = false := by simp [h0]
        have hpos : 0 < s4 := by omega
        have H0 := Lib.hid h0
        go_wp2
        refine wp_region_later (by kernel_rfl) (by kernel_rfl) (fun hlx => ?_)
        repeat (go_big_quiet_step (fail))
        refine wpQuiet_nil ?_
        clear hlx
        intro w9 hbw9
        obtain ⟨hzw9, hcw9, hfw9⟩ := bfacts hbw9; (try simp at hzw9 hcw9 hfw9); (try (have : w.heap.size < w9.heap.size := by omega)); (try (have : w.heap.size + 1 < w9.heap.size := by omega)); (try (have : w.heap.size + 1 + 1 < w9.heap.size := by omega)); (try (have : w.heap.size + 1 + 1 + 1 < w9.heap.size := by omega))
        go_wp2
        refine bodyPost_ret (results_tmp4 rfl _ _ _) rfl ?_
        refine ⟨?_, by repeat' (first | (with_reducible exact Below.refl _ _) | (with_reducible assumption) | (with_reducible refine Below.alloc ?_ ?_ _) | (with_reducible refine Below.drew ?_) | (with_reducible refine Below.setCell ?_ ?_ _) | (with_reducible refine Below.stepB (by assumption) ?_ ?_) | go_size)⟩
        rw [v1.out, v2.out, v3.out, hok.out]
        simp [H0.out]
theorem specMean_no (A : Option Addr) (n c : Nat) (f : Nat → BS) (x y far : Int) (w : World) (hS : SlS w A n f) (hn : n ≤ 1048576) (h : ¬ ((goodUpto f n && decide (n ≤ 12)) = true ∧ spotB x y = true ∧ inB far 0 2000 = true)) :
    Calls Try.prog 30 #[.slice A n c, .agg #[.int .i64 x, .int .i64 y], .int .i64 far] w
    fun e w' => e = .returned (.tuple #[.int .i64 0, .int .i64 0, .int .i64 0, .bool false]) ∧ Below w.heap.size w w' := by
  obtain ⟨r, hr⟩ : ∃ r, (goodUpto f n && decide (n ≤ 12)) = r := ⟨_, rfl⟩
  have hA := fun W (hb : Below w.heap.size w W) => l18Good_any A n c f W (hS.below hb) hn
  rw [hr] at h hA
  have HA := Lib.hid hA
  clear hr hA hS
  rcases Bool.eq_false_or_eq_true r with rfl | rfl <;> rcases Bool.eq_false_or_eq_true (spotB x y) with hp | hp <;> rcases Bool.eq_false_or_eq_true (inB far 0 2000) with hf | hf
  · exact absurd ⟨rfl, hp, hf⟩ h
  all_goals
    clear h
    go_enter Try.func30, Try.ntmps30
    go_wp2_with fail
    refine (HA.out _ (by repeat' (first | (with_reducible exact Below.refl _ _) | (with_reducible assumption) | (with_reducible refine Below.alloc ?_ ?_ _) | (with_reducible refine Below.drew ?_) | (with_reducible refine Below.setCell ?_ ?_ _) | (with_reducible refine Below.stepB (by assumption) ?_ ?_) | go_size))).mono ?_
    rintro e w1 ⟨rfl, hbw1⟩
    obtain ⟨hzw1, hcw1, hfw1⟩ := bfacts hbw1; (try simp at hzw1 hcw1 hfw1); (try (have : w.heap.size < w1.heap.size := by omega)); (try (have : w.heap.size + 1 < w1.heap.size := by omega)); (try (have : w.heap.size + 1 + 1 < w1.heap.size := by omega)); (try (have : w.heap.size + 1 + 1 + 1 < w1.heap.size := by omega))
    go_wp2_with (first | (go_at_call 70; refine (l2Spot_any _ _ _).mono ?_; rintro e w2 ⟨rfl, hbw2⟩; obtain ⟨hzw2, hcw2, hfw2⟩ := bfacts hbw2; (try simp at hzw2 hcw2 hfw2); (try (have : w.heap.size < w2.heap.size := by omega)); (try (have : w.heap.size + 1 < w2.heap.size := by omega)); (try (have : w.heap.size + 1 + 1 < w2.heap.size := by omega)); (try (have : w.heap.size + 1 + 1 + 1 < w2.heap.size := by omega))) | (go_at_call 73; refine (l17Far_any _ _).mono ?_; rintro e w' ⟨rfl, rfl⟩))
    refine bodyPost_ret (results_tmp4 rfl _ _ _) rfl ?_
    exact ⟨rfl, by repeat' (first | (with_reducible exact Below.refl _ _) | (with_reducible assumption) | (with_reducible refine Below.alloc ?_ ?_ _) | (with_reducible refine Below.drew ?_) | (with_reducible refine Below.setCell ?_ ?_ _) | (with_reducible refine Below.stepB (by assumption) ?_ ?_) | go_size)⟩
theorem specMean_any (A : Option Addr) (n c : Nat) (f : Nat → BS) (x y far : Int) (w : World) (hS : SlS w A n f) (hn : n ≤ 1048576) :
    Calls Try.prog 30 #[.slice A n c, .agg #[.int .i64 x, .int .i64 y], .int .i64 far] w
    fun e w' => e = .returned (.tuple #[.int .i64 (meanV f x y far n BS.mud), .int .i64 (meanV f x y far n BS.sand), .int .i64 (meanV f x y far n BS.rock), .bool (meanOk f x y far n)]) ∧ Below w.heap.size w w' := by
  by_cases h : (goodUpto f n && decide (n ≤ 12)) = true ∧ spotB x y = true ∧ inB far 0 2000 = true
  · have h1 := Bool.and_eq_true_iff.1 h.1
    exact specMean_yes A n c f x y far w hS hn h1.1 (by simpa using h1.2) h.2.1 h.2.2
  · have e1 : meanOk f x y far n = false := by
      rcases Bool.eq_false_or_eq_true (meanOk f x y far n) with hh | hh
      · simp only [meanOk, Bool.and_eq_true] at hh
        exact absurd ⟨by simp [hh], hh.2.1, hh.2.2.1⟩ h
      · exact hh
    have e2 : ∀ h, meanV f x y far n h = 0 := fun h => by simp [meanV, e1]
    rw [e1, e2, e2, e2]
    exact specMean_no A n c f x y far w hS hn h
end Go.Proofs.Ytfecepjdjikenaa
