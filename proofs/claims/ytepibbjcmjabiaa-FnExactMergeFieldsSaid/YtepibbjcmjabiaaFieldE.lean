/- Contracts of the functions that measure a contour. -/
import Derived.Test.YtepibbjcmjabiaaFieldC
import Derived.Test.YtepibbjcmjabiaaFieldD
namespace Go.Proofs.Ytepibbjcmjabiaa
open Go.RowKit
def cntU (p : Nat → Bool) : Nat → Nat
  | 0 => 0
  | k + 1 => cntU p k + (if p k = true then 1 else 0)
theorem cntU_le (p : Nat → Bool) : ∀ k, cntU p k ≤ k
  | 0 => Nat.le_refl _
  | k + 1 => by
    have := cntU_le p k
    unfold cntU
    split <;> omega
theorem cntU_hit {p : Nat → Bool} {k : Nat} (h : p k = true) : cntU p (k + 1) = cntU p k + 1 := by simp [cntU, h]
theorem cntU_miss {p : Nat → Bool} {k : Nat} (h : p k = false) : cntU p (k + 1) = cntU p k := by simp [cntU, h]
theorem cntU_congr {p q : Nat → Bool} : ∀ {n : Nat}, (∀ k, k < n → p k = q k) → cntU p n = cntU q n
  | 0, _ => rfl
  | n + 1, h => by simp [cntU, cntU_congr (n := n) (fun k hk => h k (by omega)), h n (by omega)]
def sumU (g : Nat → Nat) : Nat → Nat
  | 0 => 0
  | k + 1 => sumU g k + g k
theorem sumU_le {g : Nat → Nat} {b : Nat} (h : ∀ k, g k ≤ b) : ∀ n, sumU g n ≤ n * b
  | 0 => by simp [sumU]
  | n + 1 => by
    have := sumU_le h n
    have := h n
    rw [sumU, Nat.succ_mul]
    omega
/-- what is counted over a choice is counted over all with the choice -/
theorem cnt_pick (p : Nat → Bool) (h : Nat → Int) (q : Int → Bool) : ∀ n, cntU (fun j => q ((pick p h n).getD j 0)) (pick p h n).length = cntU (fun k => p k && q (h k)) n
  | 0 => rfl
  | n + 1 => by
    have ih := cnt_pick p h q n
    rcases Bool.eq_false_or_eq_true (p n) with hp | hp
    · rw [pick_hit hp]
      have e : (pick p h n ++ [h n]).length = (pick p h n).length + 1 := by simp
      rw [e, cntU, cntU]
      have e2 : cntU (fun j => q ((pick p h n ++ [h n]).getD j 0)) (pick p h n).length = cntU (fun j => q ((pick p h n).getD j 0)) (pick p h n).length :=
        cntU_congr (fun k hk => by simp [List.getElem?_append_left hk])
      rw [e2, ih]
      simp [hp]
    · rw [pick_miss hp, ih, cntU_miss (by simp [hp])]
theorem pick_mem {p : Nat → Bool} {h : Nat → Int} : ∀ {n j : Nat}, j < (pick p h n).length → ∃ k, k < n ∧ p k = true ∧ (pick p h n).getD j 0 = h k
  | 0, j, hj => absurd hj (by simp [pick])
  | n + 1, j, hj => by
    rcases Bool.eq_false_or_eq_true (p n) with hp | hp
    · rw [pick_hit hp] at hj ⊢
      rcases Nat.lt_or_ge j (pick p h n).length with h1 | h1
      · obtain ⟨k, h2, h3, h4⟩ := pick_mem h1
        exact ⟨k, by omega, h3, by rw [← h4]; simp [List.getElem?_append_left h1]⟩
      · have : j = (pick p h n).length := by simp at hj; omega
        subst this
        exact ⟨n, by omega, hp, by simp⟩
    · rw [pick_miss hp] at hj ⊢
      obtain ⟨k, h2, h3, h4⟩ := pick_mem hj
      exact ⟨k, by omega, h3, h4⟩
/-- sums over all pairs, and over the lower ones -/
theorem sum_pairs (P : Nat → Nat → Bool) (hi : ∀ i, P i i = false) (hx : ∀ i k, P i k = true → P k i = false) :
    ∀ n, sumU (fun i => cntU (fun k => P i k) n) n = sumU (fun i => cntU (fun k => P i k || P k i) i) n := by
  have h1 : ∀ n m, sumU (fun i => cntU (fun k => P i k) (n + 1)) m = sumU (fun i => cntU (fun k => P i k) n) m + cntU (fun i => P i n) m := by
    intro n m
    induction m with
    | zero => rfl
    | succ m ih =>
      rw [sumU, sumU, ih, cntU, cntU]
      omega
  have h2 : ∀ n m, cntU (fun k => P n k || P k n) m = cntU (fun k => P n k) m + cntU (fun k => P k n) m := by
    intro n m
    induction m with
    | zero => rfl
    | succ m ih =>
      rw [cntU, cntU, cntU, ih]
      rcases Bool.eq_false_or_eq_true (P n m) with h | h
      · have := hx n m h
        simp [h, this]
        omega
      · rcases Bool.eq_false_or_eq_true (P m n) with h' | h' <;> simp [h, h'] <;> omega
  intro n
  induction n with
  | zero => rfl
  | succ n ih =>
    rw [sumU, h1, ih, sumU, h2, cntU_miss (by exact hi n)]
    omega
theorem mag_symm (a b : Int) : mag (a - b) = mag (b - a) := by unfold mag; omega
theorem bsd_symm (cl : Int) (i k : Nat) : bsd cl i k = bsd cl k i := by
  unfold bsd rowsD colsD
  rw [mag_symm ((i : Int) / cl), mag_symm ((i : Int) % cl)]
theorem bsd_self (cl : Int) (i : Nat) : bsd cl i i = false := by
  have h : mag 0 = 0 := by decide
  simp [bsd, rowsD, colsD, h]
/-- a contour lies between the two cells, the first one shoaler -/
def crossP (cl : Int) (L : Nat → Int) (lev : Int) (i k : Nat) : Bool := bsd cl i k && (decide (L i < lev) && decide (lev ≤ L k))
def crossS (cl : Int) (L : Nat → Int) (lev : Int) (i k : Nat) : Bool := bsd cl i k && (decide (L i < lev) != decide (L k < lev))
theorem cross_or (cl : Int) (L : Nat → Int) (lev : Int) (i k : Nat) : (crossP cl L lev i k || crossP cl L lev k i) = crossS cl L lev i k := by
  unfold crossP crossS
  rw [bsd_symm cl k i]
  have e : ∀ x : Int, decide (lev ≤ x) = !decide (x < lev) := fun x => by
    by_cases h : x < lev
    · simp [h]
    · simp [h]; omega
  rw [e, e]
  cases bsd cl i k <;> cases decide (L i < lev) <;> cases decide (L k < lev) <;> rfl
theorem contour_same (cl : Int) (L : Nat → Int) (lev : Int) (n : Nat) : sumU (fun i => cntU (fun k => crossP cl L lev i k) n) n = sumU (fun i => cntU (fun k => crossS cl L lev i k) i) n := by
  rw [sum_pairs (crossP cl L lev) (fun i => by simp [crossP, bsd_self]) (fun i k h => by
    simp only [crossP, Bool.and_eq_true, decide_eq_true_eq] at h
    have : ¬ (L k < lev) := by omega
    simp [crossP, this]) n]
  simp only [cross_or]
/-- the length of the contour -/
def contV (cl : Int) (n : Nat) (L : Nat → Int) (lev : Int) : Nat := sumU (fun i => cntU (fun k => crossP cl L lev i k) n) n
def okLev (r cl : Int) (n : Nat) (L : Nat → Int) (lev : Int) : Bool := okF r cl n L && inB lev (-1000) 20000
theorem isLevel_any (r cl : Int) (A : Option Addr) (n c : Nat) (L : Nat → Int) (lev : Int) (w : World) (hS : SlI w A n L) (hn : n ≤ 1048576) : Calls Try.prog 38 #[.agg #[.int .i64 r, .int .i64 cl, .slice A n c], .int .i64 lev] w
    fun e w' => e = .returned (.bool (okLev r cl n L lev)) ∧ Below w.heap.size w w' := by
  have hG := Lib.hid (fun W (hb : Below w.heap.size w W) => IsField_any r cl A n c L W (hS.below hb) hn)
  unfold okLev
  clear hS
  generalize okF r cl n L = q at hG ⊢
  rcases Bool.eq_false_or_eq_true q with rfl | rfl
  all_goals
    go_enter Try.func38, Try.ntmps38
    go_wp2_with fail
    refine (hG.out _ (by repeat' (first | (with_reducible exact Below.refl _ _) | (with_reducible assumption) | (with_reducible refine Below.alloc ?_ ?_ _) | (with_reducible refine Below.drew ?_) | (with_reducible refine Below.setCell ?_ ?_ _) | (with_reducible refine Below.stepB (by assumption) ?_ ?_) | go_size))).mono ?_
    rintro e w1 ⟨rfl, hbw1⟩
    obtain ⟨hzw1, hcw1, hfw1⟩ := bfacts hbw1; (try simp at hzw1 hcw1 hfw1); (try (have : w.heap.size < w1.heap.size := by omega)); (try (have : w.heap.size + 1 < w1.heap.size := by omega)); (try (have : w.heap.size + 1 + 1 < w1.heap.size := by omega)); (try (have : w.heap.size + 1 + 1 + 1 < w1.heap.size := by omega))
    go_wp2_with (go_at_call 32; refine (isDepth_any _ _).mono ?_; rintro e w' ⟨rfl, rfl⟩)
    go_ret
    exact ⟨rfl, by repeat' (first | (with_reducible exact Below.refl _ _) | (with_reducible assumption) | (with_reducible refine Below.alloc ?_ ?_ _) | (with_reducible refine Below.drew ?_) | (with_reducible refine Below.setCell ?_ ?_ _) | (with_reducible refine Below.stepB (by assumption) ?_ ?_) | go_size)⟩
theorem l19Asked_any (r cl : Int) (A : Option Addr) (n c : Nat) (L : Nat → Int) (lev : Int) (w : World) (hS : SlI w A n L) (hn : n ≤ 1048576) : Calls Try.prog 36 #[.agg #[.int .i64 r, .int .i64 cl, .slice A n c], .int .i64 lev] w
    fun e w' => e = .returned (.bool (okLev r cl n L lev)) ∧ Below w.heap.size w w' := by
  have hG := Lib.hid (fun W (hb : Below w.heap.size w W) => l19Good_any r cl A n c L W (hS.below hb) hn)
  unfold okLev
  clear hS
  generalize okF r cl n L = q at hG ⊢
  rcases Bool.eq_false_or_eq_true q with rfl | rfl
  all_goals
    go_enter Try.func36, Try.ntmps36
    go_wp2_with fail
    refine (hG.out _ (by repeat' (first | (with_reducible exact Below.refl _ _) | (with_reducible assumption) | (with_reducible refine Below.alloc ?_ ?_ _) | (with_reducible refine Below.drew ?_) | (with_reducible refine Below.setCell ?_ ?_ _) | (with_reducible refine Below.stepB (by assumption) ?_ ?_) | go_size))).mono ?_
    rintro e w1 ⟨rfl, hbw1⟩
    obtain ⟨hzw1, hcw1, hfw1⟩ := bfacts hbw1; (try simp at hzw1 hcw1 hfw1); (try (have : w.heap.size < w1.heap.size := by omega)); (try (have : w.heap.size + 1 < w1.heap.size := by omega)); (try (have : w.heap.size + 1 + 1 < w1.heap.size := by omega)); (try (have : w.heap.size + 1 + 1 + 1 < w1.heap.size := by omega))
    go_wp2_with (go_at_call 44; refine (l2Depth_any _ _).mono ?_; rintro e w' ⟨rfl, rfl⟩)
    go_ret
    exact ⟨rfl, by repeat' (first | (with_reducible exact Below.refl _ _) | (with_reducible assumption) | (with_reducible refine Below.alloc ?_ ?_ _) | (with_reducible refine Below.drew ?_) | (with_reducible refine Below.setCell ?_ ?_ _) | (with_reducible refine Below.stepB (by assumption) ?_ ?_) | go_size)⟩
def contOk (r cl : Int) (n : Nat) (L : Nat → Int) (lev : Int) : Int := if okLev r cl n L lev = true then (contV cl n L lev : Int) else 0
theorem ContourLength_no (r cl : Int) (A : Option Addr) (n c : Nat) (L : Nat → Int) (lev : Int) (w : World) (hS : SlI w A n L) (hn : n ≤ 1048576) (h : okLev r cl n L lev = false) : Calls Try.prog 16 #[.agg #[.int .i64 r, .int .i64 cl, .slice A n c], .int .i64 lev] w
    fun e w' => e = .returned (.tuple #[.int .i64 (contOk r cl n L lev), .bool (okLev r cl n L lev)]) ∧ Below w.heap.size w w' := by
  have hG := fun W (hb : Below w.heap.size w W) => isLevel_any r cl A n c L lev W (hS.below hb) hn
  rw [h] at hG
  rw [contOk, h, if_neg (by decide)]
  have HG := Lib.hid hG
  clear hG hS h
  go_enter Try.func16, Try.ntmps16
  go_wp2_with fail
  refine (HG.out _ (by repeat' (first | (with_reducible exact Below.refl _ _) | (with_reducible assumption) | (with_reducible refine Below.alloc ?_ ?_ _) | (with_reducible refine Below.drew ?_) | (with_reducible refine Below.setCell ?_ ?_ _) | (with_reducible refine Below.stepB (by assumption) ?_ ?_) | go_size))).mono ?_
  rintro e w1 ⟨rfl, hbw1⟩
  obtain ⟨hzw1, hcw1, hfw1⟩ := bfacts hbw1; (try simp at hzw1 hcw1 hfw1); (try (have : w.heap.size < w1.heap.size := by omega)); (try (have : w.heap.size + 1 < w1.heap.size := by omega)); (try (have : w.heap.size + 1 + 1 < w1.heap.size := by omega)); (try (have : w.heap.size + 1 + 1 + 1 < w1.heap.size := by omega))
  go_wp2
  go_ret2
  exact ⟨rfl, by repeat' (first | (with_reducible exact Below.refl _ _) | (with_reducible assumption) | (with_reducible refine Below.alloc ?_ ?_ _) | (with_reducible refine Below.drew ?_) | (with_reducible refine Below.setCell ?_ ?_ _) | (with_reducible refine Below.stepB (by assumption) ?_ ?_) | go_size)⟩
theorem specContour_no (r cl : Int) (A : Option Addr) (n c : Nat) (L : Nat → Int) (lev : Int) (w : World) (hS : SlI w A n L) (hn : n ≤ 1048576) (h : okLev r cl n L lev = false) : Calls Try.prog 15 #[.agg #[.int .i64 r, .int .i64 cl, .slice A n c], .int .i64 lev] w
    fun e w' => e = .returned (.tuple #[.int .i64 (contOk r cl n L lev), .bool (okLev r cl n L lev)]) ∧ Below w.heap.size w w' := by
  have hG := fun W (hb : Below w.heap.size w W) => l19Asked_any r cl A n c L lev W (hS.below hb) hn
  rw [h] at hG
  rw [contOk, h, if_neg (by decide)]
  have HG := Lib.hid hG
  clear hG hS h
  go_enter Try.func15, Try.ntmps15
  go_wp2_with fail
  refine (HG.out _ (by repeat' (first | (with_reducible exact Below.refl _ _) | (with_reducible assumption) | (with_reducible refine Below.alloc ?_ ?_ _) | (with_reducible refine Below.drew ?_) | (with_reducible refine Below.setCell ?_ ?_ _) | (with_reducible refine Below.stepB (by assumption) ?_ ?_) | go_size))).mono ?_
  rintro e w1 ⟨rfl, hbw1⟩
  obtain ⟨hzw1, hcw1, hfw1⟩ := bfacts hbw1; (try simp at hzw1 hcw1 hfw1); (try (have : w.heap.size < w1.heap.size := by omega)); (try (have : w.heap.size + 1 < w1.heap.size := by omega)); (try (have : w.heap.size + 1 + 1 < w1.heap.size := by omega)); (try (have : w.heap.size + 1 + 1 + 1 < w1.heap.size := by omega))
  go_wp2
  go_ret2
  exact ⟨rfl, by repeat' (first | (with_reducible exact Below.refl _ _) | (with_reducible assumption) | (with_reducible refine Below.alloc ?_ ?_ _) | (with_reducible refine Below.drew ?_) | (with_reducible refine Below.setCell ?_ ?_ _) | (with_reducible refine Below.stepB (by assumption) ?_ ?_) | go_size)⟩
theorem ContourLength_yes (r cl : Int) (A : Option Addr) (n c : Nat) (L : Nat → Int) (lev : Int) (w : World) (hS : SlI w A n L) (hn : n ≤ 1048576) (h : okLev r cl n L lev = true) : Calls Try.prog 16 #[.agg #[.int .i64 r, .int .i64 cl, .slice A n c], .int .i64 lev] w
    fun e w' => e = .returned (.tuple #[.int .i64 (contOk r cl n L lev), .bool (okLev r cl n L lev)]) ∧ Below w.heap.size w w' := by
  have hG := fun W (hb : Below w.heap.size w W) => isLevel_any r cl A n c L lev W (hS.below hb) hn
  rw [h] at hG
  rw [contOk, h, if_pos rfl]
  have h0 : okF r cl n L = true := by
    simp only [okLev, Bool.and_eq_true] at h
    exact h.1
  obtain ⟨hr, ⟨hc1, hc2⟩, hn0, hn36, -⟩ := okF_bd h0
  have HG := Lib.hid hG
  clear hG h h0
  go_enter Try.func16, Try.ntmps16
  go_wp2_with fail
  refine (HG.out _ (by repeat' (first | (with_reducible exact Below.refl _ _) | (with_reducible assumption) | (with_reducible refine Below.alloc ?_ ?_ _) | (with_reducible refine Below.drew ?_) | (with_reducible refine Below.setCell ?_ ?_ _) | (with_reducible refine Below.stepB (by assumption) ?_ ?_) | go_size))).mono ?_
  rintro e w1 ⟨rfl, hbw1⟩
  obtain ⟨hzw1, hcw1, hfw1⟩ := bfacts hbw1; (try simp at hzw1 hcw1 hfw1); (try (have : w.heap.size < w1.heap.size := by omega)); (try (have : w.heap.size + 1 < w1.heap.size := by omega)); (try (have : w.heap.size + 1 + 1 < w1.heap.size := by omega)); (try (have : w.heap.size + 1 + 1 + 1 < w1.heap.size := by omega))
  have hB1 : Blk w1 w.heap.size 27 #[.int .i64 r, .int .i64 cl, .slice A n c] := (blk_new w _ _ rfl).below hbw1 (by simp)
  go_wp2
  go_loopw [6, 18] (fun v6 vc wr => ∃ (k s : Nat), k ≤ n ∧ vc = .int .i64 k ∧ v6 = .int .i64 s ∧ s = sumU (fun i => cntU (fun q => crossP cl L lev i q) n) k ∧ s ≤ k * 36 ∧ Blk wr w.heap.size 27 #[.int .i64 r, .int .i64 cl, .slice A n c] ∧ Below w.heap.size w wr) (fun _ vc _ => n - (intOf vc).toNat)
  case atStart => exact ⟨0, 0, Nat.zero_le _, rfl, rfl, rfl, by omega, hB1, by repeat' (first | (with_reducible exact Below.refl _ _) | (with_reducible assumption) | (with_reducible refine Below.alloc ?_ ?_ _) | (with_reducible refine Below.drew ?_) | (with_reducible refine Below.setCell ?_ ?_ _) | (with_reducible refine Below.stepB (by assumption) ?_ ?_) | go_size)⟩
  case round =>
    obtain ⟨k, s, hk, rfl, rfl, hs, hs36, hB, hbr⟩ := hrel
    have hzr := hbr.size
    have HS := Lib.hid hs
    clear hs hB1
    have hg0 := hB.lt
    have g0 : wr.cell? ⟨w.heap.size, 0, none⟩ = some (.int .i64 r) := hB.cell 0
    have g1 : wr.cell? ⟨w.heap.size, 1, none⟩ = some (.int .i64 cl) := hB.cell 1
    have g2 : wr.cell? ⟨w.heap.size, 2, none⟩ = some (.slice A n c) := hB.cell 2
    by_cases hlt : k < n
    · obtain ⟨b, off, rfl, hbl, hbl2, c0⟩ := hS.at hbr hlt
      go_wp2_with fail
      refine (near_any r cl _ n c k _ hc1 hc2 (by omega) hn36).mono ?_
      rintro e w3 ⟨A3, m3, c3, rfl, hm3, hO3, hbw3⟩
      have hz3 := hbw3.size
      have hm36 : m3 ≤ n := by rw [hm3]; exact pick_len n
      have hB3 := hB.below hbw3 (by omega)
      have hb3 : Below w.heap.size w w3 := by repeat' (first | (with_reducible exact Below.refl _ _) | (with_reducible assumption) | (with_reducible refine Below.alloc ?_ ?_ _) | (with_reducible refine Below.drew ?_) | (with_reducible refine Below.setCell ?_ ?_ _) | (with_reducible refine Below.stepB (by assumption) ?_ ?_) | go_size)
      have HB3 := Lib.hid hb3
      have HM3 := Lib.hid hm3
      have hsl3 : SlI w3 A3 m3 (fun j => (nearL cl k n).getD j 0) := hO3.sl
      clear hO3 hbw3 hb3 hm3 g0 g1 g2 c0
      go_wp2
      go_loopw [6, 27] (fun v6 vc wq => ∃ (j t : Nat), j ≤ m3 ∧ vc = .int .i64 j ∧ v6 = .int .i64 ((s + t : Nat) : Int) ∧ t = cntU (fun j => decide (L k < lev) && decide (lev ≤ L ((nearL cl k n).getD j 0).toNat)) j ∧ Blk wq w.heap.size 27 #[.int .i64 r, .int .i64 cl, .slice (some ⟨b, off, none⟩) n c] ∧ Below w3.heap.size w3 wq) (fun _ vc _ => m3 - (intOf vc).toNat)
      case atStart => exact ⟨0, 0, Nat.zero_le _, rfl, rfl, rfl, hB3, by repeat' (first | (with_reducible exact Below.refl _ _) | (with_reducible assumption) | (with_reducible refine Below.alloc ?_ ?_ _) | (with_reducible refine Below.drew ?_) | (with_reducible refine Below.setCell ?_ ?_ _) | (with_reducible refine Below.stepB (by assumption) ?_ ?_) | go_size)⟩
      case round =>
        rename World => wq
        obtain ⟨j, t, hj, rfl, rfl, ht, hBq, hbq⟩ := hrel
        have hzq := hbq.size
        have htj : t ≤ j := by rw [ht]; exact cntU_le _ _
        have HT := Lib.hid ht
        clear ht
        have hgq := hBq.lt
        have g2 : wq.cell? ⟨w.heap.size, 2, none⟩ = some (.slice (some ⟨b, off, none⟩) n c) := hBq.cell 2
        have HBW := Lib.hid (HB3.out.trans (hbq.mono (by omega)))
        by_cases hlt2 : j < m3
        · obtain ⟨b3, off3, rfl, hbl3, hbl4, d0⟩ := hsl3.at hbq hlt2
          obtain ⟨q, hqn, hqp, hqe⟩ := pick_mem (j := j) (h := fun k => (k : Int)) (by rw [HM3.out] at hlt2; exact hlt2)
          have hqe' : (nearL cl k n).getD j 0 = (q : Int) := hqe
          rw [hqe'] at d0
          have hqN : ((nearL cl k n).getD j 0).toNat = q := by rw [hqe']; simp
          have HQ := Lib.hid hqN
          have HQP := Lib.hid hqp
          clear hqe hqe' hqN hqp
          obtain ⟨b', off', hA', _, _, e0⟩ := hS.at HBW.out hqn
          obtain ⟨rfl, rfl⟩ : b = b' ∧ off = off' := by simpa using hA'
          by_cases hq1 : L k < lev
          · by_cases hq2 : lev ≤ L q
            · have HH := Lib.hid (cntU_hit (p := fun j => decide (L k < lev) && decide (lev ≤ L ((nearL cl k n).getD j 0).toNat)) (k := j) (by simp only [HQ.out]; simp [hq1, hq2]))
              go_wp2
              go_roundw
              case rel => exact ⟨j + 1, t + 1, by omega, by go_num, by congr 1, by rw [HH.out, ← HT.out], hBq, by repeat' (first | (with_reducible exact Below.refl _ _) | (with_reducible assumption) | (with_reducible refine Below.alloc ?_ ?_ _) | (with_reducible refine Below.drew ?_) | (with_reducible refine Below.setCell ?_ ?_ _) | (with_reducible refine Below.stepB (by assumption) ?_ ?_) | go_size)⟩
              case measure => simp [intOf]; omega
            · have HH := Lib.hid (cntU_miss (p := fun j => decide (L k < lev) && decide (lev ≤ L ((nearL cl k n).getD j 0).toNat)) (k := j) (by simp only [HQ.out]; simp [hq2]))
              go_wp2
              go_roundw
              case rel => exact ⟨j + 1, t, by omega, by go_num, rfl, by rw [HH.out, ← HT.out], hBq, by repeat' (first | (with_reducible exact Below.refl _ _) | (with_reducible assumption) | (with_reducible refine Below.alloc ?_ ?_ _) | (with_reducible refine Below.drew ?_) | (with_reducible refine Below.setCell ?_ ?_ _) | (with_reducible refine Below.stepB (by assumption) ?_ ?_) | go_size)⟩
              case measure => simp [intOf]; omega
          · have HH := Lib.hid (cntU_miss (p := fun j => decide (L k < lev) && decide (lev ≤ L ((nearL cl k n).getD j 0).toNat)) (k := j) (by simp [hq1]))
            go_wp2
            go_roundw
            case rel => exact ⟨j + 1, t, by omega, by go_num, rfl, by rw [HH.out, ← HT.out], hBq, by repeat' (first | (with_reducible exact Below.refl _ _) | (with_reducible assumption) | (with_reducible refine Below.alloc ?_ ?_ _) | (with_reducible refine Below.drew ?_) | (with_reducible refine Below.setCell ?_ ?_ _) | (with_reducible refine Below.stepB (by assumption) ?_ ?_) | go_size)⟩
            case measure => simp [intOf]; omega
        · obtain rfl : j = m3 := by omega
          have hnew : Hid (t = cntU (fun q => crossP cl L lev k q) n) := by
            show _ = _
            rw [HT.out, HM3.out]
            exact cnt_pick (fun q => bsd cl k q) (fun q => (q : Int)) (fun x => decide (L k < lev) && decide (lev ≤ L x.toNat)) n
          have hbW := HBW.out
          clear hbq
          go_wp2
          go_roundw
          case rel => exact ⟨k + 1, s + t, by omega, by go_num, rfl, by rw [sumU, ← HS.out, ← hnew.out], by omega, hBq, by repeat' (first | (with_reducible exact Below.refl _ _) | (with_reducible assumption) | (with_reducible refine Below.alloc ?_ ?_ _) | (with_reducible refine Below.drew ?_) | (with_reducible refine Below.setCell ?_ ?_ _) | (with_reducible refine Below.stepB (by assumption) ?_ ?_) | go_size)⟩
          case measure => simp [intOf]; omega
    · obtain rfl : k = n := by omega
      go_wp2
      go_ret2
      exact ⟨by rw [contV, ← HS.out]; rfl, by repeat' (first | (with_reducible exact Below.refl _ _) | (with_reducible assumption) | (with_reducible refine Below.alloc ?_ ?_ _) | (with_reducible refine Below.drew ?_) | (with_reducible refine Below.setCell ?_ ?_ _) | (with_reducible refine Below.stepB (by assumption) ?_ ?_) | go_size)⟩
theorem cross_of {x y : Bool} : (!x == y) = (x != y) := by cases x <;> cases y <;> rfl
set_option maxHeartbeats 4000000 in
theorem specContour_yes (r cl : Int) (A : Option Addr) (n c : Nat) (L : Nat → Int) (lev : Int) (w : World) (hS : SlI w A n L) (hn : n ≤ 1048576) (h : okLev r cl n L lev = true) : Calls Try.prog 15 #[.agg #[.int .i64 r, .int .i64 cl, .slice A n c], .int .i64 lev] w
    fun e w' => e = .returned (.tuple #[.int .i64 (contOk r cl n L lev), .bool (okLev r cl n L lev)]) ∧ Below w.heap.size w w' := by
  have hG := fun W (hb : Below w.heap.size w W) => l19Asked_any r cl A n c L lev W (hS.below hb) hn
  rw [h] at hG
  rw [contOk, h, if_pos rfl]
  have h0 : okF r cl n L = true := by
    simp only [okLev, Bool.and_eq_true] at h
    exact h.1
  obtain ⟨hr, ⟨hc1, hc2⟩, hn0, hn36, -⟩ := okF_bd h0
  have HG := Lib.hid hG
  clear hG h h0
  go_enter Try.func15, Try.ntmps15
  go_wp2_with fail
  refine (HG.out _ (by repeat' (first | (with_reducible exact Below.refl _ _) | (with_reducible assumption) | (with_reducible refine Below.alloc ?_ ?_ _) | (with_reducible refine Below.drew ?_) | (with_reducible refine Below.setCell ?_ ?_ _) | (with_reducible refine Below.stepB (by assumption) ?_ ?_) | go_size))).mono ?_
  rintro e w1 ⟨rfl, hbw1⟩
  obtain ⟨hzw1, hcw1, hfw1⟩ := bfacts hbw1; (try simp at hzw1 hcw1 hfw1); (try (have : w.heap.size < w1.heap.size := by omega)); (try (have : w.heap.size + 1 < w1.heap.size := by omega)); (try (have : w.heap.size + 1 + 1 < w1.heap.size := by omega)); (try (have : w.heap.size + 1 + 1 + 1 < w1.heap.size := by omega))
  have hB1 : Blk w1 w.heap.size 27 #[.int .i64 r, .int .i64 cl, .slice A n c] := (blk_new w _ _ rfl).below hbw1 (by simp)
  go_wp2
  go_loopw [6, 7] (fun v6 vc wr => ∃ (k s : Nat), k ≤ n ∧ vc = .int .i64 k ∧ v6 = .int .i64 s ∧ s = sumU (fun i => cntU (fun q => crossS cl L lev i q) i) k ∧ s ≤ k * 36 ∧ Blk wr w.heap.size 27 #[.int .i64 r, .int .i64 cl, .slice A n c] ∧ Below w.heap.size w wr) (fun _ vc _ => n - (intOf vc).toNat)
  case atStart => exact ⟨0, 0, Nat.zero_le _, rfl, rfl, rfl, by omega, hB1, by repeat' (first | (with_reducible exact Below.refl _ _) | (with_reducible assumption) | (with_reducible refine Below.alloc ?_ ?_ _) | (with_reducible refine Below.drew ?_) | (with_reducible refine Below.setCell ?_ ?_ _) | (with_reducible refine Below.stepB (by assumption) ?_ ?_) | go_size)⟩
  case round =>
    obtain ⟨k, s, hk, rfl, rfl, hs, hs36, hB, hbr⟩ := hrel
    have hzr := hbr.size
    have HS := Lib.hid hs
    clear hs hB1
    have hg0 := hB.lt
    have g2 : wr.cell? ⟨w.heap.size, 2, none⟩ = some (.slice A n c) := hB.cell 2
    by_cases hlt : k < n
    · go_wp2
      have HBR := Lib.hid hbr
      clear hbr g2
      go_loopw [6, 8] (fun v6 vc wq => ∃ (j t : Nat), j ≤ k ∧ vc = .int .i64 j ∧ v6 = .int .i64 ((s + t : Nat) : Int) ∧ t = cntU (fun q => crossS cl L lev k q) j ∧ Blk wq w.heap.size 27 #[.int .i64 r, .int .i64 cl, .slice A n c] ∧ Below wr.heap.size wr wq) (fun _ vc _ => k - (intOf vc).toNat)
      case atStart => exact ⟨0, 0, Nat.zero_le _, rfl, rfl, rfl, hB, Below.refl _ _⟩
      case round =>
        rename World => wq
        obtain ⟨j, t, hj, rfl, rfl, ht, hBq, hbq⟩ := hrel
        have hzq := hbq.size
        have htj : t ≤ j := by rw [ht]; exact cntU_le _ _
        have HT := Lib.hid ht
        clear ht
        have hgq := hBq.lt
        have f0 : wq.cell? ⟨w.heap.size, 0, none⟩ = some (.int .i64 r) := hBq.cell 0
        have f1 : wq.cell? ⟨w.heap.size, 1, none⟩ = some (.int .i64 cl) := hBq.cell 1
        have f2 : wq.cell? ⟨w.heap.size, 2, none⟩ = some (.slice A n c) := hBq.cell 2
        have hbw : Below w.heap.size w wq := HBR.out.trans (hbq.mono (by omega))
        by_cases hlt2 : j < k
        · obtain ⟨b, off, rfl, hbl, hbl2, c0⟩ := hS.at hbw hlt
          obtain ⟨b', off', hA', _, _, e0⟩ := hS.at (k := j) hbw (by omega)
          obtain ⟨rfl, rfl⟩ : b = b' ∧ off = off' := by simpa using hA'
          have HBW := Lib.hid hbw
          clear hbw
          have hbs := fun (W : World) => l19Beside_any r cl (some ⟨b, off, none⟩) n c k j W hc1 hc2 (by omega) (by omega)
          rcases Bool.eq_false_or_eq_true (bsd cl k j) with hq | hq
          · rw [hq] at hbs
            have HBS := Lib.hid hbs
            have HQ := Lib.hid hq
            clear hbs hq
            go_wp2
            refine wp_region_later (by kernel_rfl) (by kernel_rfl) (fun hlx => ?_)
            repeat (go_big_quiet_step ((go_at_call 37; exact Later.call (HBS.out _))))
            refine wpQuiet_nil ?_
            clear hlx
            intro w4 hbw4
            obtain ⟨hzw4, hcw4, hfw4⟩ := bfacts hbw4; (try simp at hzw4 hcw4 hfw4); (try (have : w.heap.size < w4.heap.size := by omega)); (try (have : w.heap.size + 1 < w4.heap.size := by omega)); (try (have : w.heap.size + 1 + 1 < w4.heap.size := by omega)); (try (have : w.heap.size + 1 + 1 + 1 < w4.heap.size := by omega))
            have hB4 := hBq.below hbw4 (by omega)
            go_wp2
            · rename_i hd
              have HH := Lib.hid (cntU_hit (p := fun q => crossS cl L lev k q) (k := j) (by
                show (bsd cl k j && (decide (L k < lev) != decide (L j < lev))) = true
                rw [HQ.out, ← cross_of, hd]; rfl))
              go_roundw
              case rel => exact ⟨j + 1, t + 1, by omega, by go_num, by congr 1, by rw [HH.out, ← HT.out], hB4, by repeat' (first | (with_reducible exact Below.refl _ _) | (with_reducible assumption) | (with_reducible refine Below.alloc ?_ ?_ _) | (with_reducible refine Below.drew ?_) | (with_reducible refine Below.setCell ?_ ?_ _) | (with_reducible refine Below.stepB (by assumption) ?_ ?_) | go_size)⟩
              case measure => simp [intOf]; omega
            · rename_i hd
              have HH := Lib.hid (cntU_miss (p := fun q => crossS cl L lev k q) (k := j) (by
                show (bsd cl k j && (decide (L k < lev) != decide (L j < lev))) = false
                rw [HQ.out, ← cross_of, hd]; rfl))
              go_roundw
              case rel => exact ⟨j + 1, t, by omega, by go_num, rfl, by rw [HH.out, ← HT.out], hB4, by repeat' (first | (with_reducible exact Below.refl _ _) | (with_reducible assumption) | (with_reducible refine Below.alloc ?_ ?_ _) | (with_reducible refine Below.drew ?_) | (with_reducible refine Below.setCell ?_ ?_ _) | (with_reducible refine Below.stepB (by assumption) ?_ ?_) | go_size)⟩
              case measure => simp [intOf]; omega
          · rw [hq] at hbs
            have HBS := Lib.hid hbs
            have HH := Lib.hid (cntU_miss (p := fun q => crossS cl L lev k q) (k := j) (by simp [crossS, hq]))
            clear hbs hq
            go_wp2
            refine wp_region_later (by kernel_rfl) (by kernel_rfl) (fun hlx => ?_)
            repeat (go_big_quiet_step ((go_at_call 37; exact Later.call (HBS.out _))))
            refine wpQuiet_nil ?_
            clear hlx
            intro w4 hbw4
            obtain ⟨hzw4, hcw4, hfw4⟩ := bfacts hbw4; (try simp at hzw4 hcw4 hfw4); (try (have : w.heap.size < w4.heap.size := by omega)); (try (have : w.heap.size + 1 < w4.heap.size := by omega)); (try (have : w.heap.size + 1 + 1 < w4.heap.size := by omega)); (try (have : w.heap.size + 1 + 1 + 1 < w4.heap.size := by omega))
            have hB4 := hBq.below hbw4 (by omega)
            go_wp2
            go_roundw
            case rel => exact ⟨j + 1, t, by omega, by go_num, rfl, by rw [HH.out, ← HT.out], hB4, by repeat' (first | (with_reducible exact Below.refl _ _) | (with_reducible assumption) | (with_reducible refine Below.alloc ?_ ?_ _) | (with_reducible refine Below.drew ?_) | (with_reducible refine Below.setCell ?_ ?_ _) | (with_reducible refine Below.stepB (by assumption) ?_ ?_) | go_size)⟩
            case measure => simp [intOf]; omega
        · obtain rfl : j = k := by omega
          clear hbq
          go_wp2
          go_roundw
          case rel => exact ⟨j + 1, s + t, by omega, by go_num, rfl, by rw [sumU, ← HS.out, ← HT.out], by omega, hBq, by repeat' (first | (with_reducible exact Below.refl _ _) | (with_reducible assumption) | (with_reducible refine Below.alloc ?_ ?_ _) | (with_reducible refine Below.drew ?_) | (with_reducible refine Below.setCell ?_ ?_ _) | (with_reducible refine Below.stepB (by assumption) ?_ ?_) | go_size)⟩
          case measure => simp [intOf]; omega
    · obtain rfl : k = n := by omega
      go_wp2
      go_ret2
      exact ⟨by rw [contV, contour_same, ← HS.out]; rfl, by repeat' (first | (with_reducible exact Below.refl _ _) | (with_reducible assumption) | (with_reducible refine Below.alloc ?_ ?_ _) | (with_reducible refine Below.drew ?_) | (with_reducible refine Below.setCell ?_ ?_ _) | (with_reducible refine Below.stepB (by assumption) ?_ ?_) | go_size)⟩
theorem ContourLength_any (r cl : Int) (A : Option Addr) (n c : Nat) (L : Nat → Int) (lev : Int) (w : World) (hS : SlI w A n L) (hn : n ≤ 1048576) : Calls Try.prog 16 #[.agg #[.int .i64 r, .int .i64 cl, .slice A n c], .int .i64 lev] w
    fun e w' => e = .returned (.tuple #[.int .i64 (contOk r cl n L lev), .bool (okLev r cl n L lev)]) ∧ Below w.heap.size w w' := by
  rcases Bool.eq_false_or_eq_true (okLev r cl n L lev) with h | h
  · exact ContourLength_yes r cl A n c L lev w hS hn h
  · exact ContourLength_no r cl A n c L lev w hS hn h
theorem specContour_any (r cl : Int) (A : Option Addr) (n c : Nat) (L : Nat → Int) (lev : Int) (w : World) (hS : SlI w A n L) (hn : n ≤ 1048576) : Calls Try.prog 15 #[.agg #[.int .i64 r, .int .i64 cl, .slice A n c], .int .i64 lev] w
    fun e w' => e = .returned (.tuple #[.int .i64 (contOk r cl n L lev), .bool (okLev r cl n L lev)]) ∧ Below w.heap.size w w' := by
  rcases Bool.eq_false_or_eq_true (okLev r cl n L lev) with h | h
  · exact specContour_yes r cl A n c L lev w hS hn h
  · exact specContour_no r cl A n c L lev w hS hn h
end Go.Proofs.Ytepibbjcmjabiaa
