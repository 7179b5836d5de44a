/- Contracts of the functions that judge whether a selection is thin. -/
import Derived.Test.YtakkgagdbmlafaaSelA
namespace Go.Proofs.Ytakkgagdbmlafaa
open Go.RowKit
theorem atId_of {f : Nat → SD} {n : Nat} {id : Int} {q : Nat} (h : idxId f n id = (q : Int)) : atId f n id = f q := by rw [atId, h, Int.toNat_natCast]
theorem SlSD.form {w : World} {A : Option Addr} {n : Nat} {f : Nat → SD} (hS : SlSD w A n f) (hn : 0 < n) : ∃ b off, A = some ⟨b, off, none⟩ ∧ b < w.heap.size := by
  obtain ⟨b, off, h1, h2, _⟩ := hS hn
  exact ⟨b, off, h1, h2⟩
theorem l16Near_any (a b : SD) (r : Int) (w : World) (ha : okN a = true) (hb : okN b = true) (hr : inB r 1 1000 = true) : Calls Try.prog 102 #[.agg #[.int .i64 a.id, .int .i64 a.x, .int .i64 a.y, .int .i64 a.depth, .int .i64 a.doubt], .agg #[.int .i64 b.id, .int .i64 b.x, .int .i64 b.y, .int .i64 b.depth, .int .i64 b.doubt], .int .i64 r] w
    fun e w' => e = .returned (.bool (nearB r a b)) ∧ Below w.heap.size w w' := by
  have hsq := fun W => l2Square_any a.x a.y b.x b.y W (okN_spot ha) (okN_spot hb)
  unfold nearB
  obtain ⟨r1, r2⟩ := rad_bd hr
  generalize sqD a.x a.y b.x b.y = s at hsq ⊢
  have HSQ := Lib.hid hsq
  clear hsq ha hb hr
  go_enter Try.func102, Try.ntmps102
  go_wp2_with fail
  refine (HSQ.out _).mono ?_
  rintro e w1 ⟨rfl, hbw1⟩
  obtain ⟨hzw1, hcw1, hfw1⟩ := bfacts hbw1; (try simp at hzw1 hcw1 hfw1); (try (have : w.heap.size < w1.heap.size := by omega)); (try (have : w.heap.size + 1 < w1.heap.size := by omega)); (try (have : w.heap.size + 1 + 1 < w1.heap.size := by omega)); (try (have : w.heap.size + 1 + 1 + 1 < w1.heap.size := by omega))
  go_wp2
  go_ret
  exact ⟨rfl, by repeat' (first | (with_reducible exact Below.refl _ _) | (with_reducible assumption) | (with_reducible refine Below.alloc ?_ ?_ _) | (with_reducible refine Below.drew ?_) | (with_reducible refine Below.setCell ?_ ?_ _) | (with_reducible refine Below.stepB (by assumption) ?_ ?_) | go_size)⟩
set_option maxHeartbeats 1000000 in
theorem isThin_any (A : Option Addr) (n c : Nat) (f : Nat → SD) (A2 : Option Addr) (n2 c2 : Nat) (L2 : Nat → Int) (r : Int) (w : World) (hS : SlSD w A n f) (hS2 : SlI w A2 n2 L2) (hn : n ≤ 1048576) (hn2 : n2 ≤ 1048576) (hc2 : n2 ≤ c2)
    (hsel : selB f n L2 n2 = true) (hr : inB r 1 1000 = true) : Calls Try.prog 71 #[.slice A n c, .slice A2 n2 c2, .int .i64 r] w fun e w' => e = .returned (.bool (thinB f n L2 n2 r)) ∧ Below w.heap.size w w' := by
  obtain ⟨r1, r2⟩ := rad_bd hr
  obtain ⟨hg, -, hfnd⟩ := selB_parts hsel
  have HG := Lib.hid (goodN_lt (goodNAll_iff.1 hg).1)
  have HF := Lib.hid (fun k hk => fndB_at (k := k) hfnd hk)
  have HS := Lib.hid hS
  clear hsel hr hg hfnd hS
  have hrw : IntKind.i64.wrap (r * r) = r * r := by rw [IntKind.wrap_i64]; omega
  have HRW := Lib.hid hrw
  clear hrw
  go_enter Try.func71, Try.ntmps71
  go_wp2
  go_loopw [13] (fun v wr => ∃ k : Nat, k ≤ n2 ∧ v = .int .i64 k ∧ allUpto (thinP f n L2 r) k = true ∧ Below w.heap.size w wr) (fun v _ => n2 - (intOf v).toNat)
  case atStart => exact ⟨0, Nat.zero_le _, rfl, rfl, Below.refl _ _⟩
  case round =>
    obtain ⟨k, hk, rfl, hall, hbr⟩ := hrel
    have HALL := Lib.hid hall
    clear hall
    have hzr := hbr.size
    by_cases hlt : k < n2
    · obtain ⟨b2, off2, rfl, hbl2, hbl2', c0⟩ := hS2.at hbr hlt
      have hkc : k ≤ c2 := by omega
      have HBR := Lib.hid hbr
      clear hbr
      go_wp2
      go_loopw [22] (fun v wq => ∃ j : Nat, j ≤ k ∧ v = .int .i64 j ∧ Hid (∀ i, i < j → nearB r (atId f n (L2 k)) (atId f n (L2 i)) = false) ∧ Below w.heap.size w wq) (fun v _ => k - (intOf v).toNat)
      case atStart => exact ⟨0, Nat.zero_le _, rfl, fun i hi => absurd hi (by omega), HBR.out⟩
      case round =>
        rename World => wq
        obtain ⟨j, hj, rfl, hno, hbq⟩ := hrel
        have hzq := hbq.size
        clear c0
        by_cases hlt2 : j < k
        · obtain ⟨b2', off2', hA2', _, _, d0⟩ := hS2.at (k := j) hbq (by omega)
          obtain ⟨rfl, rfl⟩ : b2 = b2' ∧ off2 = off2' := by simpa using hA2'
          clear hA2'
          obtain ⟨q1, hq1, e1, -⟩ := HF.out k hlt
          obtain ⟨q2, hq2, e2, -⟩ := HF.out j (by omega)
          have g1 := HG.out q1 hq1
          have g2 := HG.out q2 hq2
          obtain ⟨b, off, rfl, hbl, hbl', x0, x1, x2, x3, x4, hx⟩ := HS.out.at hbq hq1
          obtain ⟨b', off', hA', _, _, y0, y1, y2, y3, y4, hy⟩ := HS.out.at hbq hq2
          obtain ⟨rfl, rfl⟩ : b = b' ∧ off = off' := by simpa using hA'
          clear hA' hx hy
          have f1 := fun (x : Later wq) => soundingIndex_any (some ⟨b, off, none⟩) n c f (L2 k) x.w (HS.out.below (Later.old x hbq (by omega))) hn
          have f2 := fun (x : Later wq) => soundingIndex_any (some ⟨b, off, none⟩) n c f (L2 j) x.w (HS.out.below (Later.old x hbq (by omega))) hn
          rw [e1] at f1
          rw [e2] at f2
          have hsq := fun (x : Later wq) => squareOf_any (f q1).x (f q1).y (f q2).x (f q2).y x.w (okN_spot g1) (okN_spot g2)
          have HN : Hid (nearB r (atId f n (L2 k)) (atId f n (L2 j)) = decide (sqD (f q1).x (f q1).y (f q2).x (f q2).y ≤ r * r)) := by show _ = _; rw [atId_of e1, atId_of e2, nearB]
          have sqb := sqD_bd (okN_spot g1) (okN_spot g2)
          generalize sqD (f q1).x (f q1).y (f q2).x (f q2).y = s at hsq HN sqb
          have F1 := Lib.hid f1
          have F2 := Lib.hid f2
          have HSQ := Lib.hid hsq
          clear f1 f2 hsq e1 e2 g1 g2
          have hbq2 := Lib.hid hbq
          have hrw := HRW.out
          go_wp2_with fail
          refine wp_region_later (by kernel_rfl) (by kernel_rfl) (fun hlx => ?_)
          repeat (go_big_quiet_step ((first | (go_at_call 55; with_reducible exact Later.call (F1.out _)) | (go_at_call 55; with_reducible exact Later.call (F2.out _)) | (go_at_call 100; with_reducible exact Later.call (HSQ.out _)))))
          refine wpQuiet_nil ?_
          clear hlx
          intro w4 hbw4
          obtain ⟨hzw4, hcw4, hfw4⟩ := bfacts hbw4; (try simp at hzw4 hcw4 hfw4); (try (have : w.heap.size < w4.heap.size := by omega)); (try (have : w.heap.size + 1 < w4.heap.size := by omega)); (try (have : w.heap.size + 1 + 1 < w4.heap.size := by omega)); (try (have : w.heap.size + 1 + 1 + 1 < w4.heap.size := by omega))
          clear hrw
          by_cases hs : s ≤ r * r
          · have HR : Hid (false = thinB f n L2 n2 r) := by
              refine (allUpto_not (k := k) ?_ n2 hlt).symm
              rw [thinP, Bool.not_eq_false', hasP_true]
              exact ⟨j, hlt2, by rw [HN.out]; simpa using hs⟩
            go_wp2
            go_ret
            exact ⟨ret_bool HR.out, by repeat' (first | (with_reducible exact Below.refl _ _) | (with_reducible assumption) | (with_reducible refine Below.alloc ?_ ?_ _) | (with_reducible refine Below.drew ?_) | (with_reducible refine Below.setCell ?_ ?_ _) | (with_reducible refine Below.stepB (by assumption) ?_ ?_) | go_size)⟩
          · have HH : Hid (∀ i, i < j + 1 → nearB r (atId f n (L2 k)) (atId f n (L2 i)) = false) := fun i hi => by
              rcases Nat.lt_or_ge i j with h1 | h1
              · exact hno i h1
              · obtain rfl : i = j := by omega
                rw [HN.out]; simpa using hs
            go_wp2
            go_roundw
            case rel => exact ⟨j + 1, by omega, by go_num, HH, by repeat' (first | (with_reducible exact Below.refl _ _) | (with_reducible assumption) | (with_reducible refine Below.alloc ?_ ?_ _) | (with_reducible refine Below.drew ?_) | (with_reducible refine Below.setCell ?_ ?_ _) | (with_reducible refine Below.stepB (by assumption) ?_ ?_) | go_size)⟩
            case measure => simp [intOf]; omega
        · obtain rfl : j = k := by omega
          have HH : Hid (allUpto (thinP f n L2 r) (j + 1) = true) := allUpto_hit HALL.out (by rw [thinP, Bool.not_eq_true', hasP_false]; exact hno)
          go_wp2
          go_roundw
          case rel => exact ⟨j + 1, by omega, by go_num, HH.out, by repeat' (first | (with_reducible exact Below.refl _ _) | (with_reducible assumption) | (with_reducible refine Below.alloc ?_ ?_ _) | (with_reducible refine Below.drew ?_) | (with_reducible refine Below.setCell ?_ ?_ _) | (with_reducible refine Below.stepB (by assumption) ?_ ?_) | go_size)⟩
          case measure => simp [intOf]; omega
    · obtain rfl : k = n2 := by omega
      go_wp2
      go_ret
      exact ⟨ret_bool HALL.out.symm, by repeat' (first | (with_reducible exact Below.refl _ _) | (with_reducible assumption) | (with_reducible refine Below.alloc ?_ ?_ _) | (with_reducible refine Below.drew ?_) | (with_reducible refine Below.setCell ?_ ?_ _) | (with_reducible refine Below.stepB (by assumption) ?_ ?_) | go_size)⟩
set_option maxHeartbeats 1000000 in
theorem l16Thin_any (A : Option Addr) (n c : Nat) (f : Nat → SD) (A2 : Option Addr) (n2 c2 : Nat) (L2 : Nat → Int) (r : Int) (w : World) (hS : SlSD w A n f) (hS2 : SlI w A2 n2 L2) (hn : n ≤ 1048576) (hn2 : n2 ≤ 1048576)
    (hsel : selB f n L2 n2 = true) (hr : inB r 1 1000 = true) : Calls Try.prog 73 #[.slice A n c, .slice A2 n2 c2, .int .i64 r] w fun e w' => e = .returned (.bool (thinB f n L2 n2 r)) ∧ Below w.heap.size w w' := by
  obtain ⟨hg, -, hfnd⟩ := selB_parts hsel
  have HG := Lib.hid (goodN_lt (goodNAll_iff.1 hg).1)
  have HF := Lib.hid (fun k hk => fndB_at (k := k) hfnd hk)
  have HS := Lib.hid hS
  have HR := Lib.hid hr
  clear hsel hr hg hfnd hS
  go_enter Try.func73, Try.ntmps73
  go_wp2
  go_loopw [7] (fun v wr => ∃ k : Nat, k ≤ n2 ∧ v = .int .i64 k ∧ allUpto (thinP f n L2 r) k = true ∧ Below w.heap.size w wr) (fun v _ => n2 - (intOf v).toNat)
  case atStart => exact ⟨0, Nat.zero_le _, rfl, rfl, Below.refl _ _⟩
  case round =>
    obtain ⟨k, hk, rfl, hall, hbr⟩ := hrel
    have HALL := Lib.hid hall
    clear hall
    have hzr := hbr.size
    by_cases hlt : k < n2
    · obtain ⟨b2, off2, rfl, hbl2, hbl2', c0⟩ := hS2.at hbr hlt
      have HBR := Lib.hid hbr
      clear hbr
      go_wp2
      go_loopw [8] (fun v wq => ∃ j : Nat, j ≤ k ∧ v = .int .i64 j ∧ Hid (∀ i, i < j → nearB r (atId f n (L2 k)) (atId f n (L2 i)) = false) ∧ Below w.heap.size w wq) (fun v _ => k - (intOf v).toNat)
      case atStart => exact ⟨0, Nat.zero_le _, rfl, fun i hi => absurd hi (by omega), HBR.out⟩
      case round =>
        rename World => wq
        obtain ⟨j, hj, rfl, hno, hbq⟩ := hrel
        have hzq := hbq.size
        clear c0
        by_cases hlt2 : j < k
        · obtain ⟨b2', off2', hA2', _, _, d0⟩ := hS2.at (k := j) hbq (by omega)
          obtain ⟨rfl, rfl⟩ : b2 = b2' ∧ off2 = off2' := by simpa using hA2'
          obtain ⟨b2', off2', hA3', _, _, d1⟩ := hS2.at (k := k) hbq (by omega)
          obtain ⟨rfl, rfl⟩ : b2 = b2' ∧ off2 = off2' := by simpa using hA3'
          clear hA2' hA3'
          obtain ⟨q1, hq1, e1, -⟩ := HF.out k hlt
          obtain ⟨q2, hq2, e2, -⟩ := HF.out j (by omega)
          have g1 := HG.out q1 hq1
          have g2 := HG.out q2 hq2
          obtain ⟨b, off, rfl, hbl, hbl', x0, x1, x2, x3, x4, hx⟩ := HS.out.at hbq hq1
          obtain ⟨b', off', hA', _, _, y0, y1, y2, y3, y4, hy⟩ := HS.out.at hbq hq2
          obtain ⟨rfl, rfl⟩ : b = b' ∧ off = off' := by simpa using hA'
          clear hA' hx hy
          have f1 := fun (x : Later wq) => l8Find_any (some ⟨b, off, none⟩) n c f (L2 k) x.w (HS.out.below (Later.old x hbq (by omega))) hn
          have f2 := fun (x : Later wq) => l8Find_any (some ⟨b, off, none⟩) n c f (L2 j) x.w (HS.out.below (Later.old x hbq (by omega))) hn
          rw [e1] at f1
          rw [e2] at f2
          have hsq := fun (x : Later wq) => l16Near_any (f q1) (f q2) r x.w g1 g2 HR.out
          have HN : Hid (nearB r (atId f n (L2 k)) (atId f n (L2 j)) = nearB r (f q1) (f q2)) := by show _ = _; rw [atId_of e1, atId_of e2]
          generalize nearB r (f q1) (f q2) = s at hsq HN
          have F1 := Lib.hid f1
          have F2 := Lib.hid f2
          have HSQ := Lib.hid hsq
          clear f1 f2 hsq e1 e2 g1 g2
          have hbq2 := Lib.hid hbq
          cases s
          · have HH : Hid (∀ i, i < j + 1 → nearB r (atId f n (L2 k)) (atId f n (L2 i)) = false) := fun i hi => by
              rcases Nat.lt_or_ge i j with h1 | h1
              · exact hno i h1
              · obtain rfl : i = j := by omega
                exact HN.out
            go_wp2_with fail
            refine wp_region_later (by kernel_rfl) (by kernel_rfl) (fun hlx => ?_)
            repeat (go_big_quiet_step ((first | (go_at_call 67; with_reducible exact Later.same (F1.out _)) | (go_at_call 67; with_reducible exact Later.same (F2.out _)) | (go_at_call 102; with_reducible exact Later.call (HSQ.out _)))))
            refine wpQuiet_nil ?_
            clear hlx
            intro w4 hbw4
            obtain ⟨hzw4, hcw4, hfw4⟩ := bfacts hbw4; (try simp at hzw4 hcw4 hfw4); (try (have : w.heap.size < w4.heap.size := by omega)); (try (have : w.heap.size + 1 < w4.heap.size := by omega)); (try (have : w.heap.size + 1 + 1 < w4.heap.size := by omega)); (try (have : w.heap.size + 1 + 1 + 1 < w4.heap.size := by omega))
            go_wp2
            go_roundw
            case rel => exact ⟨j + 1, by omega, by go_num, HH, by repeat' (first | (with_reducible exact Below.refl _ _) | (with_reducible assumption) | (with_reducible refine Below.alloc ?_ ?_ _) | (with_reducible refine Below.drew ?_) | (with_reducible refine Below.setCell ?_ ?_ _) | (with_reducible refine Below.stepB (by assumption) ?_ ?_) | go_size)⟩
            case measure => simp [intOf]; omega
          · have HR : Hid (false = thinB f n L2 n2 r) := by
              refine (allUpto_not (k := k) ?_ n2 hlt).symm
              rw [thinP, Bool.not_eq_false', hasP_true]
              exact ⟨j, hlt2, HN.out⟩
            go_wp2_with fail
            refine wp_region_later (by kernel_rfl) (by kernel_rfl) (fun hlx => ?_)
            repeat (go_big_quiet_step ((first | (go_at_call 67; with_reducible exact Later.same (F1.out _)) | (go_at_call 67; with_reducible exact Later.same (F2.out _)) | (go_at_call 102; with_reducible exact Later.call (HSQ.out _)))))
            refine wpQuiet_nil ?_
            clear hlx
            intro w4 hbw4
            obtain ⟨hzw4, hcw4, hfw4⟩ := bfacts hbw4; (try simp at hzw4 hcw4 hfw4); (try (have : w.heap.size < w4.heap.size := by omega)); (try (have : w.heap.size + 1 < w4.heap.size := by omega)); (try (have : w.heap.size + 1 + 1 < w4.heap.size := by omega)); (try (have : w.heap.size + 1 + 1 + 1 < w4.heap.size := by omega))
            go_wp2
            go_ret
            exact ⟨ret_bool HR.out, by repeat' (first | (with_reducible exact Below.refl _ _) | (with_reducible assumption) | (with_reducible refine Below.alloc ?_ ?_ _) | (with_reducible refine Below.drew ?_) | (with_reducible refine Below.setCell ?_ ?_ _) | (with_reducible refine Below.stepB (by assumption) ?_ ?_) | go_size)⟩
        · obtain rfl : j = k := by omega
          have HH : Hid (allUpto (thinP f n L2 r) (j + 1) = true) := allUpto_hit HALL.out (by rw [thinP, Bool.not_eq_true', hasP_false]; exact hno)
          go_wp2
          go_roundw
          case rel => exact ⟨j + 1, by omega, by go_num, HH.out, by repeat' (first | (with_reducible exact Below.refl _ _) | (with_reducible assumption) | (with_reducible refine Below.alloc ?_ ?_ _) | (with_reducible refine Below.drew ?_) | (with_reducible refine Below.setCell ?_ ?_ _) | (with_reducible refine Below.stepB (by assumption) ?_ ?_) | go_size)⟩
          case measure => simp [intOf]; omega
    · obtain rfl : k = n2 := by omega
      go_wp2
      go_ret
      exact ⟨ret_bool HALL.out.symm, by repeat' (first | (with_reducible exact Below.refl _ _) | (with_reducible assumption) | (with_reducible refine Below.alloc ?_ ?_ _) | (with_reducible refine Below.drew ?_) | (with_reducible refine Below.setCell ?_ ?_ _) | (with_reducible refine Below.stepB (by assumption) ?_ ?_) | go_size)⟩
theorem l16Asked_any (A : Option Addr) (n c : Nat) (f : Nat → SD) (A2 : Option Addr) (n2 c2 : Nat) (L2 : Nat → Int) (r : Int) (w : World) (hS : SlSD w A n f) (hS2 : SlI w A2 n2 L2) (hn : n ≤ 1048576) (hn2 : n2 ≤ 1048576) :
    Calls Try.prog 64 #[.slice A n c, .slice A2 n2 c2, .int .i64 r] w fun e w' => e = .returned (.bool (askB f n L2 n2 r)) ∧ Below w.heap.size w w' := by
  have hg := Lib.hid (fun W (hb : Below w.heap.size w W) => l16Chosen_any A n c f A2 n2 c2 L2 W (hS.below hb) (hS2.below hb) hn hn2)
  unfold askB
  clear hS hS2
  generalize selB f n L2 n2 = q at hg ⊢
  cases q
  all_goals
    go_enter Try.func64, Try.ntmps64
    go_wp2_with fail
    refine (hg.out _ (by repeat' (first | (with_reducible exact Below.refl _ _) | (with_reducible assumption) | (with_reducible refine Below.alloc ?_ ?_ _) | (with_reducible refine Below.drew ?_) | (with_reducible refine Below.setCell ?_ ?_ _) | (with_reducible refine Below.stepB (by assumption) ?_ ?_) | go_size))).mono ?_
    rintro e w1 ⟨rfl, hbw1⟩
    obtain ⟨hzw1, hcw1, hfw1⟩ := bfacts hbw1; (try simp at hzw1 hcw1 hfw1); (try (have : w.heap.size < w1.heap.size := by omega)); (try (have : w.heap.size + 1 < w1.heap.size := by omega)); (try (have : w.heap.size + 1 + 1 < w1.heap.size := by omega)); (try (have : w.heap.size + 1 + 1 + 1 < w1.heap.size := by omega))
    go_wp2_with (go_at_call 95; refine (l1In_any _ _ _ _).mono ?_; rintro e w' ⟨rfl, rfl⟩)
    go_ret
    exact ⟨ret_bool (by simp), by repeat' (first | (with_reducible exact Below.refl _ _) | (with_reducible assumption) | (with_reducible refine Below.alloc ?_ ?_ _) | (with_reducible refine Below.drew ?_) | (with_reducible refine Below.setCell ?_ ?_ _) | (with_reducible refine Below.stepB (by assumption) ?_ ?_) | go_size)⟩
/-- thin or not, and asked well -/
def thinOut (f : Nat → SD) (n : Nat) (L : Nat → Int) (m : Nat) (r : Int) : Bool := askB f n L m r && thinB f n L m r
theorem IsThin_any (A : Option Addr) (n c : Nat) (f : Nat → SD) (A2 : Option Addr) (n2 c2 : Nat) (L2 : Nat → Int) (r : Int) (w : World) (hS : SlSD w A n f) (hS2 : SlI w A2 n2 L2) (hn : n ≤ 1048576) (hn2 : n2 ≤ 1048576) (hc2 : n2 ≤ c2) :
    Calls Try.prog 29 #[.slice A n c, .slice A2 n2 c2, .int .i64 r] w fun e w' => e = .returned (.tuple #[.bool (thinOut f n L2 n2 r), .bool (askB f n L2 n2 r)]) ∧ Below w.heap.size w w' := by
  have hg := Lib.hid (fun W (hb : Below w.heap.size w W) => IsSelection_any A n c f A2 n2 c2 L2 W (hS.below hb) (hS2.below hb) hn hn2)
  have ht := Lib.hid (fun W (hb : Below w.heap.size w W) => isThin_any A n c f A2 n2 c2 L2 r W (hS.below hb) (hS2.below hb) hn hn2 hc2)
  unfold thinOut askB
  clear hS hS2
  generalize thinB f n L2 n2 r = t at ht ⊢
  generalize selB f n L2 n2 = q at hg ht ⊢
  rcases Bool.eq_false_or_eq_true (inB r 1 1000) with hr | hr <;> cases q
  all_goals
    go_enter Try.func29, Try.ntmps29
    go_wp2_with fail
    refine (hg.out _ (by repeat' (first | (with_reducible exact Below.refl _ _) | (with_reducible assumption) | (with_reducible refine Below.alloc ?_ ?_ _) | (with_reducible refine Below.drew ?_) | (with_reducible refine Below.setCell ?_ ?_ _) | (with_reducible refine Below.stepB (by assumption) ?_ ?_) | go_size))).mono ?_
    rintro e w1 ⟨rfl, hbw1⟩
    obtain ⟨hzw1, hcw1, hfw1⟩ := bfacts hbw1; (try simp at hzw1 hcw1 hfw1); (try (have : w.heap.size < w1.heap.size := by omega)); (try (have : w.heap.size + 1 < w1.heap.size := by omega)); (try (have : w.heap.size + 1 + 1 < w1.heap.size := by omega)); (try (have : w.heap.size + 1 + 1 + 1 < w1.heap.size := by omega))
    go_wp2_with (first | (go_at_call 59; refine (isRadius_any _ _).mono ?_; rintro e w' ⟨rfl, rfl⟩) | (go_at_call 71; refine (ht.out _ (by repeat' (first | (with_reducible exact Below.refl _ _) | (with_reducible assumption) | (with_reducible refine Below.alloc ?_ ?_ _) | (with_reducible refine Below.drew ?_) | (with_reducible refine Below.setCell ?_ ?_ _) | (with_reducible refine Below.stepB (by assumption) ?_ ?_) | go_size)) (by first | trivial | assumption) (by first | trivial | assumption)).mono ?_; rintro e w2 ⟨rfl, hbw2⟩; obtain ⟨hzw2, hcw2, hfw2⟩ := bfacts hbw2; (try simp at hzw2 hcw2 hfw2); (try (have : w.heap.size < w2.heap.size := by omega)); (try (have : w.heap.size + 1 < w2.heap.size := by omega)); (try (have : w.heap.size + 1 + 1 < w2.heap.size := by omega)); (try (have : w.heap.size + 1 + 1 + 1 < w2.heap.size := by omega))))
    go_ret2
    exact ⟨by simp [hr], by repeat' (first | (with_reducible exact Below.refl _ _) | (with_reducible assumption) | (with_reducible refine Below.alloc ?_ ?_ _) | (with_reducible refine Below.drew ?_) | (with_reducible refine Below.setCell ?_ ?_ _) | (with_reducible refine Below.stepB (by assumption) ?_ ?_) | go_size)⟩
theorem specIsThin_any (A : Option Addr) (n c : Nat) (f : Nat → SD) (A2 : Option Addr) (n2 c2 : Nat) (L2 : Nat → Int) (r : Int) (w : World) (hS : SlSD w A n f) (hS2 : SlI w A2 n2 L2) (hn : n ≤ 1048576) (hn2 : n2 ≤ 1048576) :
    Calls Try.prog 35 #[.slice A n c, .slice A2 n2 c2, .int .i64 r] w fun e w' => e = .returned (.tuple #[.bool (thinOut f n L2 n2 r), .bool (askB f n L2 n2 r)]) ∧ Below w.heap.size w w' := by
  have hg := Lib.hid (fun W (hb : Below w.heap.size w W) => l16Asked_any A n c f A2 n2 c2 L2 r W (hS.below hb) (hS2.below hb) hn hn2)
  have ht := Lib.hid (fun W (hb : Below w.heap.size w W) (h : askB f n L2 n2 r = true) => l16Thin_any A n c f A2 n2 c2 L2 r W (hS.below hb) (hS2.below hb) hn hn2 (by simp only [askB, Bool.and_eq_true] at h; exact h.1) (by simp only [askB, Bool.and_eq_true] at h; exact h.2))
  unfold thinOut
  clear hS hS2
  generalize thinB f n L2 n2 r = t at ht ⊢
  generalize askB f n L2 n2 r = q at hg ht ⊢
  cases q
  all_goals
    go_enter Try.func35, Try.ntmps35
    go_wp2_with fail
    refine (hg.out _ (by repeat' (first | (with_reducible exact Below.refl _ _) | (with_reducible assumption) | (with_reducible refine Below.alloc ?_ ?_ _) | (with_reducible refine Below.drew ?_) | (with_reducible refine Below.setCell ?_ ?_ _) | (with_reducible refine Below.stepB (by assumption) ?_ ?_) | go_size))).mono ?_
    rintro e w1 ⟨rfl, hbw1⟩
    obtain ⟨hzw1, hcw1, hfw1⟩ := bfacts hbw1; (try simp at hzw1 hcw1 hfw1); (try (have : w.heap.size < w1.heap.size := by omega)); (try (have : w.heap.size + 1 < w1.heap.size := by omega)); (try (have : w.heap.size + 1 + 1 < w1.heap.size := by omega)); (try (have : w.heap.size + 1 + 1 + 1 < w1.heap.size := by omega))
    go_wp2_with (go_at_call 73; refine (ht.out _ (by repeat' (first | (with_reducible exact Below.refl _ _) | (with_reducible assumption) | (with_reducible refine Below.alloc ?_ ?_ _) | (with_reducible refine Below.drew ?_) | (with_reducible refine Below.setCell ?_ ?_ _) | (with_reducible refine Below.stepB (by assumption) ?_ ?_) | go_size)) (by first | trivial | assumption)).mono ?_; rintro e w2 ⟨rfl, hbw2⟩; obtain ⟨hzw2, hcw2, hfw2⟩ := bfacts hbw2; (try simp at hzw2 hcw2 hfw2); (try (have : w.heap.size < w2.heap.size := by omega)); (try (have : w.heap.size + 1 < w2.heap.size := by omega)); (try (have : w.heap.size + 1 + 1 < w2.heap.size := by omega)); (try (have : w.heap.size + 1 + 1 + 1 < w2.heap.size := by omega)))
    go_ret2
    exact ⟨by simp, by repeat' (first | (with_reducible exact Below.refl _ _) | (with_reducible assumption) | (with_reducible refine Below.alloc ?_ ?_ _) | (with_reducible refine Below.drew ?_) | (with_reducible refine Below.setCell ?_ ?_ _) | (with_reducible refine Below.stepB (by assumption) ?_ ?_) | go_size)⟩
def topRad : Nat := 999
/-- the largest radius at which it is thin -/
def radV (f : Nat → SD) (n : Nat) (L : Nat → Int) (m : Nat) : Int := idxP (fun k => !thinB f n L m ((k : Int) + 2)) topRad + 1
def radB (f : Nat → SD) (n : Nat) (L : Nat → Int) (m : Nat) : Bool := selB f n L m && (!thinB f n L m 1000 && thinB f n L m 1)
def radO (f : Nat → SD) (n : Nat) (L : Nat → Int) (m : Nat) : Int := if radB f n L m = true then radV f n L m else 0
theorem LargestRadius_any (A : Option Addr) (n c : Nat) (f : Nat → SD) (A2 : Option Addr) (n2 c2 : Nat) (L2 : Nat → Int) (w : World) (hS : SlSD w A n f) (hS2 : SlI w A2 n2 L2) (hn : n ≤ 1048576) (hn2 : n2 ≤ 1048576) (hc2 : n2 ≤ c2) :
    Calls Try.prog 37 #[.slice A n c, .slice A2 n2 c2] w fun e w' => e = .returned (.tuple #[.int .i64 (radO f n L2 n2), .bool (radB f n L2 n2)]) ∧ Below w.heap.size w w' := by
  have hg := Lib.hid (fun W (hb : Below w.heap.size w W) => IsSelection_any A n c f A2 n2 c2 L2 W (hS.below hb) (hS2.below hb) hn hn2)
  have ht := (fun r W (hb : Below w.heap.size w W) => isThin_any A n c f A2 n2 c2 L2 r W (hS.below hb) (hS2.below hb) hn hn2 hc2)
  have hV : radO f n L2 n2 = if radB f n L2 n2 = true then idxP (fun k => !thinB f n L2 n2 ((k : Int) + 2)) topRad + 1 else 0 := rfl
  have hB : radB f n L2 n2 = (selB f n L2 n2 && (!thinB f n L2 n2 1000 && thinB f n L2 n2 1)) := rfl
  clear hS hS2
  have HT := Lib.hid ht
  generalize selB f n L2 n2 = q at hg ht hB HT
  have h1000 := fun W hb => ht 1000 W hb
  have h1 := fun W hb => ht 1 W hb
  clear ht
  generalize ht1000 : thinB f n L2 n2 1000 = t1000 at h1000 hB
  generalize ht1 : thinB f n L2 n2 1 = t1 at h1 hB
  have T1000 := Lib.hid ht1000
  have H1000 := Lib.hid h1000
  have H1 := Lib.hid h1
  clear h1000 h1 ht1000 ht1
  cases q
  · have HV : Hid (radO f n L2 n2 = 0) := by show _ = _; rw [hV, hB]; rfl
    have HB := Lib.hid hB
    clear hV hB
    go_enter Try.func37, Try.ntmps37
    go_wp2_with fail
    refine (hg.out _ (by repeat' (first | (with_reducible exact Below.refl _ _) | (with_reducible assumption) | (with_reducible refine Below.alloc ?_ ?_ _) | (with_reducible refine Below.drew ?_) | (with_reducible refine Below.setCell ?_ ?_ _) | (with_reducible refine Below.stepB (by assumption) ?_ ?_) | go_size))).mono ?_
    rintro e w1 ⟨rfl, hbw1⟩
    obtain ⟨hzw1, hcw1, hfw1⟩ := bfacts hbw1; (try simp at hzw1 hcw1 hfw1); (try (have : w.heap.size < w1.heap.size := by omega)); (try (have : w.heap.size + 1 < w1.heap.size := by omega)); (try (have : w.heap.size + 1 + 1 < w1.heap.size := by omega)); (try (have : w.heap.size + 1 + 1 + 1 < w1.heap.size := by omega))
    go_wp2
    go_ret2
    exact ⟨by rw [HV.out, HB.out]; rfl, by repeat' (first | (with_reducible exact Below.refl _ _) | (with_reducible assumption) | (with_reducible refine Below.alloc ?_ ?_ _) | (with_reducible refine Below.drew ?_) | (with_reducible refine Below.setCell ?_ ?_ _) | (with_reducible refine Below.stepB (by assumption) ?_ ?_) | go_size)⟩
  cases t1000
  rotate_left
  · have HV : Hid (radO f n L2 n2 = 0) := by show _ = _; rw [hV, hB]; rfl
    have HB := Lib.hid hB
    clear hV hB
    go_enter Try.func37, Try.ntmps37
    go_wp2_with fail
    refine (hg.out _ (by repeat' (first | (with_reducible exact Below.refl _ _) | (with_reducible assumption) | (with_reducible refine Below.alloc ?_ ?_ _) | (with_reducible refine Below.drew ?_) | (with_reducible refine Below.setCell ?_ ?_ _) | (with_reducible refine Below.stepB (by assumption) ?_ ?_) | go_size))).mono ?_
    rintro e w1 ⟨rfl, hbw1⟩
    obtain ⟨hzw1, hcw1, hfw1⟩ := bfacts hbw1; (try simp at hzw1 hcw1 hfw1); (try (have : w.heap.size < w1.heap.size := by omega)); (try (have : w.heap.size + 1 < w1.heap.size := by omega)); (try (have : w.heap.size + 1 + 1 < w1.heap.size := by omega)); (try (have : w.heap.size + 1 + 1 + 1 < w1.heap.size := by omega))
    go_wp2_with fail
    refine (H1000.out _ (by repeat' (first | (with_reducible exact Below.refl _ _) | (with_reducible assumption) | (with_reducible refine Below.alloc ?_ ?_ _) | (with_reducible refine Below.drew ?_) | (with_reducible refine Below.setCell ?_ ?_ _) | (with_reducible refine Below.stepB (by assumption) ?_ ?_) | go_size)) (by first | trivial | assumption) (by decide)).mono ?_
    rintro e w2 ⟨rfl, hbw2⟩
    obtain ⟨hzw2, hcw2, hfw2⟩ := bfacts hbw2; (try simp at hzw2 hcw2 hfw2); (try (have : w.heap.size < w2.heap.size := by omega)); (try (have : w.heap.size + 1 < w2.heap.size := by omega)); (try (have : w.heap.size + 1 + 1 < w2.heap.size := by omega)); (try (have : w.heap.size + 1 + 1 + 1 < w2.heap.size := by omega))
    go_wp2
    go_ret2
    exact ⟨by rw [HV.out, HB.out]; rfl, by repeat' (first | (with_reducible exact Below.refl _ _) | (with_reducible assumption) | (with_reducible refine Below.alloc ?_ ?_ _) | (with_reducible refine Below.drew ?_) | (with_reducible refine Below.setCell ?_ ?_ _) | (with_reducible refine Below.stepB (by assumption) ?_ ?_) | go_size)⟩
  cases t1
  · have HV : Hid (radO f n L2 n2 = 0) := by show _ = _; rw [hV, hB]; rfl
    have HB := Lib.hid hB
    clear hV hB
    go_enter Try.func37, Try.ntmps37
    go_wp2_with fail
    refine (hg.out _ (by repeat' (first | (with_reducible exact Below.refl _ _) | (with_reducible assumption) | (with_reducible refine Below.alloc ?_ ?_ _) | (with_reducible refine Below.drew ?_) | (with_reducible refine Below.setCell ?_ ?_ _) | (with_reducible refine Below.stepB (by assumption) ?_ ?_) | go_size))).mono ?_
    rintro e w1 ⟨rfl, hbw1⟩
    obtain ⟨hzw1, hcw1, hfw1⟩ := bfacts hbw1; (try simp at hzw1 hcw1 hfw1); (try (have : w.heap.size < w1.heap.size := by omega)); (try (have : w.heap.size + 1 < w1.heap.size := by omega)); (try (have : w.heap.size + 1 + 1 < w1.heap.size := by omega)); (try (have : w.heap.size + 1 + 1 + 1 < w1.heap.size := by omega))
    go_wp2_with fail
    refine (H1000.out _ (by repeat' (first | (with_reducible exact Below.refl _ _) | (with_reducible assumption) | (with_reducible refine Below.alloc ?_ ?_ _) | (with_reducible refine Below.drew ?_) | (with_reducible refine Below.setCell ?_ ?_ _) | (with_reducible refine Below.stepB (by assumption) ?_ ?_) | go_size)) (by first | trivial | assumption) (by decide)).mono ?_
    rintro e w2 ⟨rfl, hbw2⟩
    obtain ⟨hzw2, hcw2, hfw2⟩ := bfacts hbw2; (try simp at hzw2 hcw2 hfw2); (try (have : w.heap.size < w2.heap.size := by omega)); (try (have : w.heap.size + 1 < w2.heap.size := by omega)); (try (have : w.heap.size + 1 + 1 < w2.heap.size := by omega)); (try (have : w.heap.size + 1 + 1 + 1 < w2.heap.size := by omega))
    go_wp2_with fail
    refine (H1.out _ (by repeat' (first | (with_reducible exact Below.refl _ _) | (with_reducible assumption) | (with_reducible refine Below.alloc ?_ ?_ _) | (with_reducible refine Below.drew ?_) | (with_reducible refine Below.setCell ?_ ?_ _) | (with_reducible refine Below.stepB (by assumption) ?_ ?_) | go_size)) (by first | trivial | assumption) (by decide)).mono ?_
    rintro e w3 ⟨rfl, hbw3⟩
    obtain ⟨hzw3, hcw3, hfw3⟩ := bfacts hbw3; (try simp at hzw3 hcw3 hfw3); (try (have : w.heap.size < w3.heap.size := by omega)); (try (have : w.heap.size + 1 < w3.heap.size := by omega)); (try (have : w.heap.size + 1 + 1 < w3.heap.size := by omega)); (try (have : w.heap.size + 1 + 1 + 1 < w3.heap.size := by omega))
    go_wp2
    go_ret2
    exact ⟨by rw [HV.out, HB.out]; rfl, by repeat' (first | (with_reducible exact Below.refl _ _) | (with_reducible assumption) | (with_reducible refine Below.alloc ?_ ?_ _) | (with_reducible refine Below.drew ?_) | (with_reducible refine Below.setCell ?_ ?_ _) | (with_reducible refine Below.stepB (by assumption) ?_ ?_) | go_size)⟩
  · have HV : Hid (radO f n L2 n2 = idxP (fun k => !thinB f n L2 n2 ((k : Int) + 2)) topRad + 1) := by show _ = _; rw [hV, if_pos (by rw [hB]; rfl)]
    have HB : Hid (radB f n L2 n2 = true) := by show _ = _; rw [hB]; rfl
    clear hV hB
    go_enter Try.func37, Try.ntmps37
    go_wp2_with fail
    refine (hg.out _ (by repeat' (first | (with_reducible exact Below.refl _ _) | (with_reducible assumption) | (with_reducible refine Below.alloc ?_ ?_ _) | (with_reducible refine Below.drew ?_) | (with_reducible refine Below.setCell ?_ ?_ _) | (with_reducible refine Below.stepB (by assumption) ?_ ?_) | go_size))).mono ?_
    rintro e w1 ⟨rfl, hbw1⟩
    obtain ⟨hzw1, hcw1, hfw1⟩ := bfacts hbw1; (try simp at hzw1 hcw1 hfw1); (try (have : w.heap.size < w1.heap.size := by omega)); (try (have : w.heap.size + 1 < w1.heap.size := by omega)); (try (have : w.heap.size + 1 + 1 < w1.heap.size := by omega)); (try (have : w.heap.size + 1 + 1 + 1 < w1.heap.size := by omega))
    go_wp2_with fail
    refine (H1000.out _ (by repeat' (first | (with_reducible exact Below.refl _ _) | (with_reducible assumption) | (with_reducible refine Below.alloc ?_ ?_ _) | (with_reducible refine Below.drew ?_) | (with_reducible refine Below.setCell ?_ ?_ _) | (with_reducible refine Below.stepB (by assumption) ?_ ?_) | go_size)) (by first | trivial | assumption) (by decide)).mono ?_
    rintro e w2 ⟨rfl, hbw2⟩
    obtain ⟨hzw2, hcw2, hfw2⟩ := bfacts hbw2; (try simp at hzw2 hcw2 hfw2); (try (have : w.heap.size < w2.heap.size := by omega)); (try (have : w.heap.size + 1 < w2.heap.size := by omega)); (try (have : w.heap.size + 1 + 1 < w2.heap.size := by omega)); (try (have : w.heap.size + 1 + 1 + 1 < w2.heap.size := by omega))
    go_wp2_with fail
    refine (H1.out _ (by repeat' (first | (with_reducible exact Below.refl _ _) | (with_reducible assumption) | (with_reducible refine Below.alloc ?_ ?_ _) | (with_reducible refine Below.drew ?_) | (with_reducible refine Below.setCell ?_ ?_ _) | (with_reducible refine Below.stepB (by assumption) ?_ ?_) | go_size)) (by first | trivial | assumption) (by decide)).mono ?_
    rintro e w3 ⟨rfl, hbw3⟩
    obtain ⟨hzw3, hcw3, hfw3⟩ := bfacts hbw3; (try simp at hzw3 hcw3 hfw3); (try (have : w.heap.size < w3.heap.size := by omega)); (try (have : w.heap.size + 1 < w3.heap.size := by omega)); (try (have : w.heap.size + 1 + 1 < w3.heap.size := by omega)); (try (have : w.heap.size + 1 + 1 + 1 < w3.heap.size := by omega))
    go_wp2
    go_loopw [6] (fun v6 wr => ∃ k : Nat, k ≤ 998 ∧ v6 = .int .i64 ((k : Int) + 1) ∧ Hid (∀ i : Nat, i < k → thinB f n L2 n2 ((i : Int) + 2) = true) ∧ Below w.heap.size w wr) (fun v6 _ => 1000 - (intOf v6).toNat)
    case atStart => exact ⟨0, by omega, rfl, fun i hi => absurd hi (by omega), by repeat' (first | (with_reducible exact Below.refl _ _) | (with_reducible assumption) | (with_reducible refine Below.alloc ?_ ?_ _) | (with_reducible refine Below.drew ?_) | (with_reducible refine Below.setCell ?_ ?_ _) | (with_reducible refine Below.stepB (by assumption) ?_ ?_) | go_size)⟩
    case round =>
      obtain ⟨k, hk, rfl, hall, hbr⟩ := hrel
      have hzr := hbr.size
      have HK := Lib.hid (fun W hb => HT.out ((k : Int) + 2) W hb (by first | trivial | assumption) (by rw [inB_iff]; omega))
      rcases Bool.eq_false_or_eq_true (thinB f n L2 n2 ((k : Int) + 2)) with hq | hq
      · rw [hq] at HK
        have hk2 : k + 1 ≤ 998 := by
          rcases Nat.lt_or_ge k 998 with h | h
          · omega
          · obtain rfl : k = 998 := by omega
            have := T1000.out
            rw [show ((998 : Nat) : Int) + 2 = 1000 from rfl] at hq
            rw [hq] at this; cases this
        have HH : Hid (∀ i : Nat, i < k + 1 → thinB f n L2 n2 ((i : Int) + 2) = true) := fun i hi => by
          rcases Nat.lt_or_ge i k with h1 | h1
          · exact hall i h1
          · obtain rfl : i = k := by omega
            exact hq
        clear hq
        go_wp2_with fail
        refine (HK.out _ (by repeat' (first | (with_reducible exact Below.refl _ _) | (with_reducible assumption) | (with_reducible refine Below.alloc ?_ ?_ _) | (with_reducible refine Below.drew ?_) | (with_reducible refine Below.setCell ?_ ?_ _) | (with_reducible refine Below.stepB (by assumption) ?_ ?_) | go_size))).mono ?_
        rintro e w5 ⟨rfl, hbw5⟩
        obtain ⟨hzw5, hcw5, hfw5⟩ := bfacts hbw5; (try simp at hzw5 hcw5 hfw5); (try (have : w.heap.size < w5.heap.size := by omega)); (try (have : w.heap.size + 1 < w5.heap.size := by omega)); (try (have : w.heap.size + 1 + 1 < w5.heap.size := by omega)); (try (have : w.heap.size + 1 + 1 + 1 < w5.heap.size := by omega))
        go_wp2
        go_roundw
        case rel => exact ⟨k + 1, by omega, by congr 1, HH, by repeat' (first | (with_reducible exact Below.refl _ _) | (with_reducible assumption) | (with_reducible refine Below.alloc ?_ ?_ _) | (with_reducible refine Below.drew ?_) | (with_reducible refine Below.setCell ?_ ?_ _) | (with_reducible refine Below.stepB (by assumption) ?_ ?_) | go_size)⟩
        case measure => simp [intOf]; omega
      · rw [hq] at HK
        have HQ : Hid ((k : Int) + 1 = radO f n L2 n2) := by
          show _ = _
          rw [HV.out, idxP_some (p := fun k => !thinB f n L2 n2 ((k : Int) + 2)) (k := k) (by simp [hq]) (fun i hi => by simp [hall i hi]) topRad (by show k < 999; omega)]
        clear hq
        go_wp2_with fail
        refine (HK.out _ (by repeat' (first | (with_reducible exact Below.refl _ _) | (with_reducible assumption) | (with_reducible refine Below.alloc ?_ ?_ _) | (with_reducible refine Below.drew ?_) | (with_reducible refine Below.setCell ?_ ?_ _) | (with_reducible refine Below.stepB (by assumption) ?_ ?_) | go_size))).mono ?_
        rintro e w5 ⟨rfl, hbw5⟩
        obtain ⟨hzw5, hcw5, hfw5⟩ := bfacts hbw5; (try simp at hzw5 hcw5 hfw5); (try (have : w.heap.size < w5.heap.size := by omega)); (try (have : w.heap.size + 1 < w5.heap.size := by omega)); (try (have : w.heap.size + 1 + 1 < w5.heap.size := by omega)); (try (have : w.heap.size + 1 + 1 + 1 < w5.heap.size := by omega))
        go_wp2
        go_ret2
        exact ⟨by rw [← HQ.out, HB.out] <;> rfl, by repeat' (first | (with_reducible exact Below.refl _ _) | (with_reducible assumption) | (with_reducible refine Below.alloc ?_ ?_ _) | (with_reducible refine Below.drew ?_) | (with_reducible refine Below.setCell ?_ ?_ _) | (with_reducible refine Below.stepB (by assumption) ?_ ?_) | go_size)⟩
theorem specLargest_any (A : Option Addr) (n c : Nat) (f : Nat → SD) (A2 : Option Addr) (n2 c2 : Nat) (L2 : Nat → Int) (w : World) (hS : SlSD w A n f) (hS2 : SlI w A2 n2 L2) (hn : n ≤ 1048576) (hn2 : n2 ≤ 1048576) :
    Calls Try.prog 36 #[.slice A n c, .slice A2 n2 c2] w fun e w' => e = .returned (.tuple #[.int .i64 (radO f n L2 n2), .bool (radB f n L2 n2)]) ∧ Below w.heap.size w w' := by
  have hg := Lib.hid (fun W (hb : Below w.heap.size w W) => l16Chosen_any A n c f A2 n2 c2 L2 W (hS.below hb) (hS2.below hb) hn hn2)
  have ht := (fun r W (hb : Below w.heap.size w W) => l16Thin_any A n c f A2 n2 c2 L2 r W (hS.below hb) (hS2.below hb) hn hn2)
  have hV : radO f n L2 n2 = if radB f n L2 n2 = true then idxP (fun k => !thinB f n L2 n2 ((k : Int) + 2)) topRad + 1 else 0 := rfl
  have hB : radB f n L2 n2 = (selB f n L2 n2 && (!thinB f n L2 n2 1000 && thinB f n L2 n2 1)) := rfl
  clear hS hS2
  have HT := Lib.hid ht
  generalize selB f n L2 n2 = q at hg ht hB HT
  have h1000 := fun W hb => ht 1000 W hb
  have h1 := fun W hb => ht 1 W hb
  clear ht
  generalize ht1000 : thinB f n L2 n2 1000 = t1000 at h1000 hB
  generalize ht1 : thinB f n L2 n2 1 = t1 at h1 hB
  have T1000 := Lib.hid ht1000
  have H1000 := Lib.hid h1000
  have H1 := Lib.hid h1
  clear h1000 h1 ht1000 ht1
  cases q
  · have HV : Hid (radO f n L2 n2 = 0) := by show _ = _; rw [hV, hB]; rfl
    have HB := Lib.hid hB
    clear hV hB
    go_enter Try.func36, Try.ntmps36
    go_wp2_with fail
    refine (hg.out _ (by repeat' (first | (with_reducible exact Below.refl _ _) | (with_reducible assumption) | (with_reducible refine Below.alloc ?_ ?_ _) | (with_reducible refine Below.drew ?_) | (with_reducible refine Below.setCell ?_ ?_ _) | (with_reducible refine Below.stepB (by assumption) ?_ ?_) | go_size))).mono ?_
    rintro e w1 ⟨rfl, hbw1⟩
    obtain ⟨hzw1, hcw1, hfw1⟩ := bfacts hbw1; (try simp at hzw1 hcw1 hfw1); (try (have : w.heap.size < w1.heap.size := by omega)); (try (have : w.heap.size + 1 < w1.heap.size := by omega)); (try (have : w.heap.size + 1 + 1 < w1.heap.size := by omega)); (try (have : w.heap.size + 1 + 1 + 1 < w1.heap.size := by omega))
    go_wp2
    go_ret2
    exact ⟨by rw [HV.out, HB.out]; rfl, by repeat' (first | (with_reducible exact Below.refl _ _) | (with_reducible assumption) | (with_reducible refine Below.alloc ?_ ?_ _) | (with_reducible refine Below.drew ?_) | (with_reducible refine Below.setCell ?_ ?_ _) | (with_reducible refine Below.stepB (by assumption) ?_ ?_) | go_size)⟩
  cases t1000
  rotate_left
  · have HV : Hid (radO f n L2 n2 = 0) := by show _ = _; rw [hV, hB]; rfl
    have HB := Lib.hid hB
    clear hV hB
    go_enter Try.func36, Try.ntmps36
    go_wp2_with fail
    refine (hg.out _ (by repeat' (first | (with_reducible exact Below.refl _ _) | (with_reducible assumption) | (with_reducible refine Below.alloc ?_ ?_ _) | (with_reducible refine Below.drew ?_) | (with_reducible refine Below.setCell ?_ ?_ _) | (with_reducible refine Below.stepB (by assumption) ?_ ?_) | go_size))).mono ?_
    rintro e w1 ⟨rfl, hbw1⟩
    obtain ⟨hzw1, hcw1, hfw1⟩ := bfacts hbw1; (try simp at hzw1 hcw1 hfw1); (try (have : w.heap.size < w1.heap.size := by omega)); (try (have : w.heap.size + 1 < w1.heap.size := by omega)); (try (have : w.heap.size + 1 + 1 < w1.heap.size := by omega)); (try (have : w.heap.size + 1 + 1 + 1 < w1.heap.size := by omega))
    go_wp2_with fail
    refine (H1000.out _ (by repeat' (first | (with_reducible exact Below.refl _ _) | (with_reducible assumption) | (with_reducible refine Below.alloc ?_ ?_ _) | (with_reducible refine Below.drew ?_) | (with_reducible refine Below.setCell ?_ ?_ _) | (with_reducible refine Below.stepB (by assumption) ?_ ?_) | go_size)) (by first | trivial | assumption) (by decide)).mono ?_
    rintro e w2 ⟨rfl, hbw2⟩
    obtain ⟨hzw2, hcw2, hfw2⟩ := bfacts hbw2; (try simp at hzw2 hcw2 hfw2); (try (have : w.heap.size < w2.heap.size := by omega)); (try (have : w.heap.size + 1 < w2.heap.size := by omega)); (try (have : w.heap.size + 1 + 1 < w2.heap.size := by omega)); (try (have : w.heap.size + 1 + 1 + 1 < w2.heap.size := by omega))
    go_wp2
    go_ret2
    exact ⟨by rw [HV.out, HB.out]; rfl, by repeat' (first | (with_reducible exact Below.refl _ _) | (with_reducible assumption) | (with_reducible refine Below.alloc ?_ ?_ _) | (with_reducible refine Below.drew ?_) | (with_reducible refine Below.setCell ?_ ?_ _) | (with_reducible refine Below.stepB (by assumption) ?_ ?_) | go_size)⟩
  cases t1
  · have HV : Hid (radO f n L2 n2 = 0) := by show _ = _; rw [hV, hB]; rfl
    have HB := Lib.hid hB
    clear hV hB
    go_enter Try.func36, Try.ntmps36
    go_wp2_with fail
    refine (hg.out _ (by repeat' (first | (with_reducible exact Below.refl _ _) | (with_reducible assumption) | (with_reducible refine Below.alloc ?_ ?_ _) | (with_reducible refine Below.drew ?_) | (with_reducible refine Below.setCell ?_ ?_ _) | (with_reducible refine Below.stepB (by assumption) ?_ ?_) | go_size))).mono ?_
    rintro e w1 ⟨rfl, hbw1⟩
    obtain ⟨hzw1, hcw1, hfw1⟩ := bfacts hbw1; (try simp at hzw1 hcw1 hfw1); (try (have : w.heap.size < w1.heap.size := by omega)); (try (have : w.heap.size + 1 < w1.heap.size := by omega)); (try (have : w.heap.size + 1 + 1 < w1.heap.size := by omega)); (try (have : w.heap.size + 1 + 1 + 1 < w1.heap.size := by omega))
    go_wp2_with fail
    refine (H1000.out _ (by repeat' (first | (with_reducible exact Below.refl _ _) | (with_reducible assumption) | (with_reducible refine Below.alloc ?_ ?_ _) | (with_reducible refine Below.drew ?_) | (with_reducible refine Below.setCell ?_ ?_ _) | (with_reducible refine Below.stepB (by assumption) ?_ ?_) | go_size)) (by first | trivial | assumption) (by decide)).mono ?_
    rintro e w2 ⟨rfl, hbw2⟩
    obtain ⟨hzw2, hcw2, hfw2⟩ := bfacts hbw2; (try simp at hzw2 hcw2 hfw2); (try (have : w.heap.size < w2.heap.size := by omega)); (try (have : w.heap.size + 1 < w2.heap.size := by omega)); (try (have : w.heap.size + 1 + 1 < w2.heap.size := by omega)); (try (have : w.heap.size + 1 + 1 + 1 < w2.heap.size := by omega))
    go_wp2_with fail
    refine (H1.out _ (by repeat' (first | (with_reducible exact Below.refl _ _) | (with_reducible assumption) | (with_reducible refine Below.alloc ?_ ?_ _) | (with_reducible refine Below.drew ?_) | (with_reducible refine Below.setCell ?_ ?_ _) | (with_reducible refine Below.stepB (by assumption) ?_ ?_) | go_size)) (by first | trivial | assumption) (by decide)).mono ?_
    rintro e w3 ⟨rfl, hbw3⟩
    obtain ⟨hzw3, hcw3, hfw3⟩ := bfacts hbw3; (try simp at hzw3 hcw3 hfw3); (try (have : w.heap.size < w3.heap.size := by omega)); (try (have : w.heap.size + 1 < w3.heap.size := by omega)); (try (have : w.heap.size + 1 + 1 < w3.heap.size := by omega)); (try (have : w.heap.size + 1 + 1 + 1 < w3.heap.size := by omega))
    go_wp2
    go_ret2
    exact ⟨by rw [HV.out, HB.out]; rfl, by repeat' (first | (with_reducible exact Below.refl _ _) | (with_reducible assumption) | (with_reducible refine Below.alloc ?_ ?_ _) | (with_reducible refine Below.drew ?_) | (with_reducible refine Below.setCell ?_ ?_ _) | (with_reducible refine Below.stepB (by assumption) ?_ ?_) | go_size)⟩
  · have HV : Hid (radO f n L2 n2 = idxP (fun k => !thinB f n L2 n2 ((k : Int) + 2)) topRad + 1) := by show _ = _; rw [hV, if_pos (by rw [hB]; rfl)]
    have HB : Hid (radB f n L2 n2 = true) := by show _ = _; rw [hB]; rfl
    clear hV hB
    go_enter Try.func36, Try.ntmps36
    go_wp2_with fail
    refine (hg.out _ (by repeat' (first | (with_reducible exact Below.refl _ _) | (with_reducible assumption) | (with_reducible refine Below.alloc ?_ ?_ _) | (with_reducible refine Below.drew ?_) | (with_reducible refine Below.setCell ?_ ?_ _) | (with_reducible refine Below.stepB (by assumption) ?_ ?_) | go_size))).mono ?_
    rintro e w1 ⟨rfl, hbw1⟩
    obtain ⟨hzw1, hcw1, hfw1⟩ := bfacts hbw1; (try simp at hzw1 hcw1 hfw1); (try (have : w.heap.size < w1.heap.size := by omega)); (try (have : w.heap.size + 1 < w1.heap.size := by omega)); (try (have : w.heap.size + 1 + 1 < w1.heap.size := by omega)); (try (have : w.heap.size + 1 + 1 + 1 < w1.heap.size := by omega))
    go_wp2_with fail
    refine (H1000.out _ (by repeat' (first | (with_reducible exact Below.refl _ _) | (with_reducible assumption) | (with_reducible refine Below.alloc ?_ ?_ _) | (with_reducible refine Below.drew ?_) | (with_reducible refine Below.setCell ?_ ?_ _) | (with_reducible refine Below.stepB (by assumption) ?_ ?_) | go_size)) (by first | trivial | assumption) (by decide)).mono ?_
    rintro e w2 ⟨rfl, hbw2⟩
    obtain ⟨hzw2, hcw2, hfw2⟩ := bfacts hbw2; (try simp at hzw2 hcw2 hfw2); (try (have : w.heap.size < w2.heap.size := by omega)); (try (have : w.heap.size + 1 < w2.heap.size := by omega)); (try (have : w.heap.size + 1 + 1 < w2.heap.size := by omega)); (try (have : w.heap.size + 1 + 1 + 1 < w2.heap.size := by omega))
    go_wp2_with fail
    refine (H1.out _ (by repeat' (first | (with_reducible exact Below.refl _ _) | (with_reducible assumption) | (with_reducible refine Below.alloc ?_ ?_ _) | (with_reducible refine Below.drew ?_) | (with_reducible refine Below.setCell ?_ ?_ _) | (with_reducible refine Below.stepB (by assumption) ?_ ?_) | go_size)) (by first | trivial | assumption) (by decide)).mono ?_
    rintro e w3 ⟨rfl, hbw3⟩
    obtain ⟨hzw3, hcw3, hfw3⟩ := bfacts hbw3; (try simp at hzw3 hcw3 hfw3); (try (have : w.heap.size < w3.heap.size := by omega)); (try (have : w.heap.size + 1 < w3.heap.size := by omega)); (try (have : w.heap.size + 1 + 1 < w3.heap.size := by omega)); (try (have : w.heap.size + 1 + 1 + 1 < w3.heap.size := by omega))
    go_wp2
    go_loopw [6] (fun v6 wr => ∃ k : Nat, k ≤ 998 ∧ v6 = .int .i64 ((k : Int) + 1) ∧ Hid (∀ i : Nat, i < k → thinB f n L2 n2 ((i : Int) + 2) = true) ∧ Below w.heap.size w wr) (fun v6 _ => 1000 - (intOf v6).toNat)
    case atStart => exact ⟨0, by omega, rfl, fun i hi => absurd hi (by omega), by repeat' (first | (with_reducible exact Below.refl _ _) | (with_reducible assumption) | (with_reducible refine Below.alloc ?_ ?_ _) | (with_reducible refine Below.drew ?_) | (with_reducible refine Below.setCell ?_ ?_ _) | (with_reducible refine Below.stepB (by assumption) ?_ ?_) | go_size)⟩
    case round =>
      obtain ⟨k, hk, rfl, hall, hbr⟩ := hrel
      have hzr := hbr.size
      have HK := Lib.hid (fun W hb => HT.out ((k : Int) + 2) W hb (by first | trivial | assumption) (by rw [inB_iff]; omega))
      rcases Bool.eq_false_or_eq_true (thinB f n L2 n2 ((k : Int) + 2)) with hq | hq
      · rw [hq] at HK
        have hk2 : k + 1 ≤ 998 := by
          rcases Nat.lt_or_ge k 998 with h | h
          · omega
          · obtain rfl : k = 998 := by omega
            have := T1000.out
            rw [show ((998 : Nat) : Int) + 2 = 1000 from rfl] at hq
            rw [hq] at this; cases this
        have HH : Hid (∀ i : Nat, i < k + 1 → thinB f n L2 n2 ((i : Int) + 2) = true) := fun i hi => by
          rcases Nat.lt_or_ge i k with h1 | h1
          · exact hall i h1
          · obtain rfl : i = k := by omega
            exact hq
        clear hq
        go_wp2_with fail
        refine (HK.out _ (by repeat' (first | (with_reducible exact Below.refl _ _) | (with_reducible assumption) | (with_reducible refine Below.alloc ?_ ?_ _) | (with_reducible refine Below.drew ?_) | (with_reducible refine Below.setCell ?_ ?_ _) | (with_reducible refine Below.stepB (by assumption) ?_ ?_) | go_size))).mono ?_
        rintro e w5 ⟨rfl, hbw5⟩
        obtain ⟨hzw5, hcw5, hfw5⟩ := bfacts hbw5; (try simp at hzw5 hcw5 hfw5); (try (have : w.heap.size < w5.heap.size := by omega)); (try (have : w.heap.size + 1 < w5.heap.size := by omega)); (try (have : w.heap.size + 1 + 1 < w5.heap.size := by omega)); (try (have : w.heap.size + 1 + 1 + 1 < w5.heap.size := by omega))
        go_wp2
        go_roundw
        case rel => exact ⟨k + 1, by omega, by congr 1, HH, by repeat' (first | (with_reducible exact Below.refl _ _) | (with_reducible assumption) | (with_reducible refine Below.alloc ?_ ?_ _) | (with_reducible refine Below.drew ?_) | (with_reducible refine Below.setCell ?_ ?_ _) | (with_reducible refine Below.stepB (by assumption) ?_ ?_) | go_size)⟩
        case measure => simp [intOf]; omega
      · rw [hq] at HK
        have HQ : Hid ((k : Int) + 1 = radO f n L2 n2) := by
          show _ = _
          rw [HV.out, idxP_some (p := fun k => !thinB f n L2 n2 ((k : Int) + 2)) (k := k) (by simp [hq]) (fun i hi => by simp [hall i hi]) topRad (by show k < 999; omega)]
        clear hq
        go_wp2_with fail
        refine (HK.out _ (by repeat' (first | (with_reducible exact Below.refl _ _) | (with_reducible assumption) | (with_reducible refine Below.alloc ?_ ?_ _) | (with_reducible refine Below.drew ?_) | (with_reducible refine Below.setCell ?_ ?_ _) | (with_reducible refine Below.stepB (by assumption) ?_ ?_) | go_size))).mono ?_
        rintro e w5 ⟨rfl, hbw5⟩
        obtain ⟨hzw5, hcw5, hfw5⟩ := bfacts hbw5; (try simp at hzw5 hcw5 hfw5); (try (have : w.heap.size < w5.heap.size := by omega)); (try (have : w.heap.size + 1 < w5.heap.size := by omega)); (try (have : w.heap.size + 1 + 1 < w5.heap.size := by omega)); (try (have : w.heap.size + 1 + 1 + 1 < w5.heap.size := by omega))
        go_wp2
        go_ret2
        exact ⟨by rw [← HQ.out, HB.out] <;> rfl, by repeat' (first | (with_reducible exact Below.refl _ _) | (with_reducible assumption) | (with_reducible refine Below.alloc ?_ ?_ _) | (with_reducible refine Below.drew ?_) | (with_reducible refine Below.setCell ?_ ?_ _) | (with_reducible refine Below.stepB (by assumption) ?_ ?_) | go_size)⟩
end Go.Proofs.Ytakkgagdbmlafaa
