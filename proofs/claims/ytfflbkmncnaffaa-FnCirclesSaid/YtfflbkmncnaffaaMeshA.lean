/- Contracts of the program's small functions on triangles. -/
import Derived.Test.YtfflbkmncnaffaaMeshP
import Derived.StillTailTactics
import Derived.Deep.RegionHeld3
namespace Go.Proofs.Ytfflbkmncnaffaa
open Go.RowKit
/-- A region that draws its order: operations that only read come first, then a tail in one forced order. -/
theorem wp_region_tail {P : Program} {id : Nat} {Q : Exit → Act → World → Prop} {a : Act} {w : World} {l : List Oper} (n : Nat) (hm : P.follows .mixedOrders = true) (hB : Region.lexTailB .any l.toArray n = true)
    (h : wpStill P l.toArray w.drew (fun a' => wpList P l.toArray Q (l.drop n) a' w.drew) (l.take n) a) : (Code.region id l.toArray true).wp P Q a w := wp_region_still_tail n hm hB h
set_option maxRecDepth 100000 in
theorem cornersOf_any (A : Option Addr) (n c : Nat) (S : Nat → SP) (t : Nat → Int) (w : World) (hS : SlSP w A n S) (_hn : n ≤ 1048576) (ht : idxB n t = true) :
    Calls Try.prog 84 #[.slice A n c, .agg #[.int .i64 (t 0), .int .i64 (t 1), .int .i64 (t 2)]] w
    fun e w' => e = .returned (.agg #[.int .i64 (cn S t 0).x, .int .i64 (cn S t 0).y, .int .i64 (cn S t 1).x, .int .i64 (cn S t 1).y, .int .i64 (cn S t 2).x, .int .i64 (cn S t 2).y]) ∧ Below w.heap.size w w' := by
  obtain ⟨p, q, r, hp, hq, hr, e0, e1, e2⟩ := idxB_nat ht
  unfold cn
  rw [e0, e1, e2]
  simp only [Int.toNat_natCast]
  obtain ⟨b, off, rfl, hbl, _, x0, x1, _⟩ := hS.at (Below.refl _ _) hp
  obtain ⟨b', off', hA', _, _, y0, y1, _⟩ := hS.at (Below.refl _ _) hq
  obtain ⟨rfl, rfl⟩ : b = b' ∧ off = off' := by simpa using hA'
  obtain ⟨b', off', hA2, _, _, z0, z1, _⟩ := hS.at (Below.refl _ _) hr
  obtain ⟨rfl, rfl⟩ : b = b' ∧ off = off' := by simpa using hA2
  have i0 : (0 : Int) ≤ (p : Int) := by omega
  have i1 : (p : Int) < (n : Int) := by omega
  have j0 : (0 : Int) ≤ (q : Int) := by omega
  have j1 : (q : Int) < (n : Int) := by omega
  have k0 : (0 : Int) ≤ (r : Int) := by omega
  have k1 : (r : Int) < (n : Int) := by omega
  clear hA' hA2 hS ht e0 e1 e2
  go_enter Try.func84, Try.ntmps84
  go_wp2
  refine wp_region_tail 16 (by kernel_rfl) (by kernel_rfl) ?_
  simp only [List.take_succ_cons, List.take_zero, List.drop_succ_cons, List.drop_zero]
  repeat still_step
  refine wpStill_nil ?_
  go_wp2
  refine bodyPost_ret (by simp [results, Try.results84, go_sem]; try rfl) rfl ?_
  exact ⟨rfl, by repeat' (first | (with_reducible exact Below.refl _ _) | (with_reducible assumption) | (with_reducible refine Below.alloc ?_ ?_ _) | (with_reducible refine Below.drew ?_) | (with_reducible refine Below.setCell ?_ ?_ _) | (with_reducible refine Below.stepB (by assumption) ?_ ?_) | go_size)⟩
theorem isIn_any (a b c p : SP) (w : World) (ha : spB a = true) (hb : spB b = true) (hc : spB c = true) (hp : spB p = true) :
    Calls Try.prog 86 #[.agg #[.int .i64 a.x, .int .i64 a.y, .int .i64 b.x, .int .i64 b.y, .int .i64 c.x, .int .i64 c.y], .agg #[.int .i64 p.x, .int .i64 p.y]] w
    fun e w' => e = .returned (.bool (insT a b c p)) ∧ Below w.heap.size w w' := by
  have h1 := fun W => crossOf_any a.x a.y b.x b.y p.x p.y W ha hb hp
  have h2 := fun W => crossOf_any b.x b.y c.x c.y p.x p.y W hb hc hp
  have h3 := fun W => crossOf_any c.x c.y a.x a.y p.x p.y W hc ha hp
  have hi : insT a b c p = (decide (0 ≤ crD a.x a.y b.x b.y p.x p.y) && (decide (0 ≤ crD b.x b.y c.x c.y p.x p.y) && decide (0 ≤ crD c.x c.y a.x a.y p.x p.y))) := rfl
  generalize insT a b c p = res at hi ⊢
  generalize crD a.x a.y b.x b.y p.x p.y = s1 at h1 hi
  generalize crD b.x b.y c.x c.y p.x p.y = s2 at h2 hi
  generalize crD c.x c.y a.x a.y p.x p.y = s3 at h3 hi
  have H1 := Lib.hid h1
  have H2 := Lib.hid h2
  have H3 := Lib.hid h3
  have HI := Lib.hid hi
  clear h1 h2 h3 hi ha hb hc hp
  go_enter Try.func86, Try.ntmps86
  go_wp2
  go_loopw [6] (fun v6 wr => ∃ j : Nat, j ≤ 3 ∧ v6 = .int .i64 j ∧ (0 < j → 0 ≤ s1) ∧ (1 < j → 0 ≤ s2) ∧ (2 < j → 0 ≤ s3) ∧ Blk wr w.heap.size 95 #[.int .i64 a.x, .int .i64 a.y, .int .i64 b.x, .int .i64 b.y, .int .i64 c.x, .int .i64 c.y] ∧ Blk wr (w.heap.size + 1) 26 #[.int .i64 p.x, .int .i64 p.y] ∧ Below w.heap.size w wr) (fun v6 _ => 3 - (intOf v6).toNat)
  case atStart => exact ⟨0, by omega, rfl, fun h => absurd h (by omega), fun h => absurd h (by omega), fun h => absurd h (by omega), (blk_newP w _ _ rfl).alloc _, blk_newP _ _ _ (by simp), by repeat' (first | (with_reducible exact Below.refl _ _) | (with_reducible assumption) | (with_reducible refine Below.alloc ?_ ?_ _) | (with_reducible refine Below.drew ?_) | (with_reducible refine Below.setCell ?_ ?_ _) | (with_reducible refine Below.stepB (by assumption) ?_ ?_) | go_size)⟩
  case round =>
    obtain ⟨j, hj, rfl, g1, g2, g3, hB, hP, hbr⟩ := hrel
    have hzr := hbr.size
    have hlB := hB.lt
    have hlP := hP.lt
    have HB := Lib.hid hB
    have HP := Lib.hid hP
    have HG := Lib.hid (And.intro g1 (And.intro g2 g3))
    have c0 : wr.cell? ⟨w.heap.size, 0, none⟩ = some (.int .i64 a.x) := hB.cell 0
    have c1 : wr.cell? ⟨w.heap.size, 1, none⟩ = some (.int .i64 a.y) := hB.cell 1
    have c2 : wr.cell? ⟨w.heap.size, 2, none⟩ = some (.int .i64 b.x) := hB.cell 2
    have c3 : wr.cell? ⟨w.heap.size, 3, none⟩ = some (.int .i64 b.y) := hB.cell 3
    have c4 : wr.cell? ⟨w.heap.size, 4, none⟩ = some (.int .i64 c.x) := hB.cell 4
    have c5 : wr.cell? ⟨w.heap.size, 5, none⟩ = some (.int .i64 c.y) := hB.cell 5
    have d0 : wr.cell? ⟨w.heap.size + 1, 0, none⟩ = some (.int .i64 p.x) := hP.cell 0
    have d1 : wr.cell? ⟨w.heap.size + 1, 1, none⟩ = some (.int .i64 p.y) := hP.cell 1
    clear hB hP g1 g2 g3
    obtain rfl | rfl | rfl | rfl : j = 0 ∨ j = 1 ∨ j = 2 ∨ j = 3 := by omega
    · rcases Int.lt_or_le s1 0 with hs | hs
      · have HR : Hid (false = res) := by show _ = _; rw [HI.out]; have : ¬ 0 ≤ s1 := by omega
                                          simp [this]
        go_wp2
        refine wp_region_later (by kernel_rfl) (by kernel_rfl) (fun hlx => ?_)
        repeat (go_big_quiet_step ((go_at_call 68; exact Later.call (H1.out _))))
        refine wpQuiet_nil ?_
        clear hlx
        intro w3 hbw3
        obtain ⟨hzw3, hcw3, hfw3⟩ := bfacts hbw3; (try simp at hzw3 hcw3 hfw3); (try (have : w.heap.size < w3.heap.size := by omega)); (try (have : w.heap.size + 1 < w3.heap.size := by omega)); (try (have : w.heap.size + 1 + 1 < w3.heap.size := by omega)); (try (have : w.heap.size + 1 + 1 + 1 < w3.heap.size := by omega))
        go_wp2
        go_ret
        exact ⟨ret_bool HR.out, by repeat' (first | (with_reducible exact Below.refl _ _) | (with_reducible assumption) | (with_reducible refine Below.alloc ?_ ?_ _) | (with_reducible refine Below.drew ?_) | (with_reducible refine Below.setCell ?_ ?_ _) | (with_reducible refine Below.stepB (by assumption) ?_ ?_) | go_size)⟩
      · go_wp2
        refine wp_region_later (by kernel_rfl) (by kernel_rfl) (fun hlx => ?_)
        repeat (go_big_quiet_step ((go_at_call 68; exact Later.call (H1.out _))))
        refine wpQuiet_nil ?_
        clear hlx
        intro w3 hbw3
        obtain ⟨hzw3, hcw3, hfw3⟩ := bfacts hbw3; (try simp at hzw3 hcw3 hfw3); (try (have : w.heap.size < w3.heap.size := by omega)); (try (have : w.heap.size + 1 < w3.heap.size := by omega)); (try (have : w.heap.size + 1 + 1 < w3.heap.size := by omega)); (try (have : w.heap.size + 1 + 1 + 1 < w3.heap.size := by omega))
        go_wp2
        go_roundw
        case rel => exact ⟨1, by omega, by go_num, fun _ => hs, fun h => absurd h (by omega), fun h => absurd h (by omega), HB.out.below hbw3 hlB, HP.out.below hbw3 hlP, by repeat' (first | (with_reducible exact Below.refl _ _) | (with_reducible assumption) | (with_reducible refine Below.alloc ?_ ?_ _) | (with_reducible refine Below.drew ?_) | (with_reducible refine Below.setCell ?_ ?_ _) | (with_reducible refine Below.stepB (by assumption) ?_ ?_) | go_size)⟩
        case measure => simp [intOf]
    · have g1 := HG.out.1 (by omega)
      rcases Int.lt_or_le s2 0 with hs | hs
      · have HR : Hid (false = res) := by show _ = _; rw [HI.out]; have : ¬ 0 ≤ s2 := by omega
                                          simp [this]
        clear g1
        go_wp2
        refine wp_region_later (by kernel_rfl) (by kernel_rfl) (fun hlx => ?_)
        repeat (go_big_quiet_step ((go_at_call 68; exact Later.call (H2.out _))))
        refine wpQuiet_nil ?_
        clear hlx
        intro w3 hbw3
        obtain ⟨hzw3, hcw3, hfw3⟩ := bfacts hbw3; (try simp at hzw3 hcw3 hfw3); (try (have : w.heap.size < w3.heap.size := by omega)); (try (have : w.heap.size + 1 < w3.heap.size := by omega)); (try (have : w.heap.size + 1 + 1 < w3.heap.size := by omega)); (try (have : w.heap.size + 1 + 1 + 1 < w3.heap.size := by omega))
        go_wp2
        go_ret
        exact ⟨ret_bool HR.out, by repeat' (first | (with_reducible exact Below.refl _ _) | (with_reducible assumption) | (with_reducible refine Below.alloc ?_ ?_ _) | (with_reducible refine Below.drew ?_) | (with_reducible refine Below.setCell ?_ ?_ _) | (with_reducible refine Below.stepB (by assumption) ?_ ?_) | go_size)⟩
      · go_wp2
        refine wp_region_later (by kernel_rfl) (by kernel_rfl) (fun hlx => ?_)
        repeat (go_big_quiet_step ((go_at_call 68; exact Later.call (H2.out _))))
        refine wpQuiet_nil ?_
        clear hlx
        intro w3 hbw3
        obtain ⟨hzw3, hcw3, hfw3⟩ := bfacts hbw3; (try simp at hzw3 hcw3 hfw3); (try (have : w.heap.size < w3.heap.size := by omega)); (try (have : w.heap.size + 1 < w3.heap.size := by omega)); (try (have : w.heap.size + 1 + 1 < w3.heap.size := by omega)); (try (have : w.heap.size + 1 + 1 + 1 < w3.heap.size := by omega))
        go_wp2
        go_roundw
        case rel => exact ⟨2, by omega, by go_num, fun _ => g1, fun _ => hs, fun h => absurd h (by omega), HB.out.below hbw3 hlB, HP.out.below hbw3 hlP, by repeat' (first | (with_reducible exact Below.refl _ _) | (with_reducible assumption) | (with_reducible refine Below.alloc ?_ ?_ _) | (with_reducible refine Below.drew ?_) | (with_reducible refine Below.setCell ?_ ?_ _) | (with_reducible refine Below.stepB (by assumption) ?_ ?_) | go_size)⟩
        case measure => simp [intOf]
    · have g1 := HG.out.1 (by omega)
      have g2 := HG.out.2.1 (by omega)
      rcases Int.lt_or_le s3 0 with hs | hs
      · have HR : Hid (false = res) := by show _ = _; rw [HI.out]; have : ¬ 0 ≤ s3 := by omega
                                          simp [this]
        clear g1 g2
        go_wp2
        refine wp_region_later (by kernel_rfl) (by kernel_rfl) (fun hlx => ?_)
        repeat (go_big_quiet_step ((go_at_call 68; exact Later.call (H3.out _))))
        refine wpQuiet_nil ?_
        clear hlx
        intro w3 hbw3
        obtain ⟨hzw3, hcw3, hfw3⟩ := bfacts hbw3; (try simp at hzw3 hcw3 hfw3); (try (have : w.heap.size < w3.heap.size := by omega)); (try (have : w.heap.size + 1 < w3.heap.size := by omega)); (try (have : w.heap.size + 1 + 1 < w3.heap.size := by omega)); (try (have : w.heap.size + 1 + 1 + 1 < w3.heap.size := by omega))
        go_wp2
        go_ret
        exact ⟨ret_bool HR.out, by repeat' (first | (with_reducible exact Below.refl _ _) | (with_reducible assumption) | (with_reducible refine Below.alloc ?_ ?_ _) | (with_reducible refine Below.drew ?_) | (with_reducible refine Below.setCell ?_ ?_ _) | (with_reducible refine Below.stepB (by assumption) ?_ ?_) | go_size)⟩
      · go_wp2
        refine wp_region_later (by kernel_rfl) (by kernel_rfl) (fun hlx => ?_)
        repeat (go_big_quiet_step ((go_at_call 68; exact Later.call (H3.out _))))
        refine wpQuiet_nil ?_
        clear hlx
        intro w3 hbw3
        obtain ⟨hzw3, hcw3, hfw3⟩ := bfacts hbw3; (try simp at hzw3 hcw3 hfw3); (try (have : w.heap.size < w3.heap.size := by omega)); (try (have : w.heap.size + 1 < w3.heap.size := by omega)); (try (have : w.heap.size + 1 + 1 < w3.heap.size := by omega)); (try (have : w.heap.size + 1 + 1 + 1 < w3.heap.size := by omega))
        go_wp2
        go_roundw
        case rel => exact ⟨3, by omega, by go_num, fun _ => g1, fun _ => g2, fun _ => hs, HB.out.below hbw3 hlB, HP.out.below hbw3 hlP, by repeat' (first | (with_reducible exact Below.refl _ _) | (with_reducible assumption) | (with_reducible refine Below.alloc ?_ ?_ _) | (with_reducible refine Below.drew ?_) | (with_reducible refine Below.setCell ?_ ?_ _) | (with_reducible refine Below.stepB (by assumption) ?_ ?_) | go_size)⟩
        case measure => simp [intOf]
    · have HR : Hid (true = res) := by
        show _ = _
        have h1 := HG.out.1 (by omega)
        have h2 := HG.out.2.1 (by omega)
        have h3 := HG.out.2.2 (by omega)
        rw [HI.out]; simp [h1, h2, h3]
      clear c0 c1 c2 c3 c4 c5 d0 d1
      go_wp2
      go_ret
      exact ⟨ret_bool HR.out, by repeat' (first | (with_reducible exact Below.refl _ _) | (with_reducible assumption) | (with_reducible refine Below.alloc ?_ ?_ _) | (with_reducible refine Below.drew ?_) | (with_reducible refine Below.setCell ?_ ?_ _) | (with_reducible refine Below.stepB (by assumption) ?_ ?_) | go_size)⟩
end Go.Proofs.Ytfflbkmncnaffaa
