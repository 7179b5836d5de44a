/- Contracts: the Ids of those for which no chosen one stands; safe or not; the depths shown. -/
import Derived.Test.YtakkgagdbmlafaaSelC
namespace Go.Proofs.Ytakkgagdbmlafaa
open Go.RowKit
theorem int_info : (Try.prog.info? 3).map (fun i => (i.zero, i.size, i.bytes)) = some (some (.int .i64 0), 1, 8) := by kernel_rfl
set_option maxHeartbeats 1000000 in
theorem l16Open_any (A : Option Addr) (n c : Nat) (f : Nat → SD) (A2 : Option Addr) (n2 c2 : Nat) (L2 : Nat → Int) (r : Int) (w : World) (hS : SlSD w A n f) (hS2 : SlI w A2 n2 L2) (hn : n ≤ 1048576) (hn2 : n2 ≤ 1048576)
    (hg : goodNAll f n = true) (hfnd : fndB f n L2 n2 = true) (hr : inB r 1 1000 = true) : Calls Try.prog 65 #[.slice A n c, .slice A2 n2 c2, .int .i64 r] w fun e w' => IntOut w (openL f n L2 n2 r) e w' := by
  have HG := Lib.hid (goodN_lt (goodNAll_iff.1 hg).1)
  have HF := Lib.hid (fun k hk => fndB_at (k := k) hfnd hk)
  have HS := Lib.hid hS
  have HS2 := Lib.hid hS2
  have HR := Lib.hid hr
  clear hg hfnd hr hS2
  obtain ⟨i0, hi0, hz0, hz1, hz2⟩ := info_parts int_info
  go_enter Try.func65, Try.ntmps65
  go_wp2
  go_loopw [7, 8] (fun v7 vc wr => ∃ k : Nat, k ≤ n ∧ vc = .int .i64 k ∧ wr.ownsRow w.heap.size 3 1 v7 (pick (openP f n L2 n2 r) (fun i => (f i).id) k).length ((pick (openP f n L2 n2 r) (fun i => (f i).id) k).map (Value.int .i64)) ∧ Below w.heap.size w wr) (fun _ vc _ => n - (intOf vc).toNat)
  case atStart => exact ⟨0, Nat.zero_le _, rfl, ownsRow_empty w 3 1, by repeat' (first | (with_reducible exact Below.refl _ _) | (with_reducible assumption) | (with_reducible refine Below.alloc ?_ ?_ _) | (with_reducible refine Below.drew ?_) | (with_reducible refine Below.setCell ?_ ?_ _) | (with_reducible refine Below.stepB (by assumption) ?_ ?_) | go_size)⟩
  case round =>
    obtain ⟨k, hk, rfl, hO, hbr⟩ := hrel
    have hzr := hbr.size
    obtain ⟨A7, c7, rfl⟩ := ownsRow_form hO
    have hlen := pick_len (p := openP f n L2 n2 r) (h := fun i => (f i).id) k
    have HO := Lib.hid hO
    have HBR := Lib.hid hbr
    clear hO
    by_cases hlt : k < n
    · have hok := Lib.hid (HG.out k hlt)
      obtain ⟨b, off, rfl, hbl, hbl', -⟩ := hS.at hbr hlt
      clear hbr hbl'
      go_wp2
      go_loopw [9, 10] (fun v9 v10 wq => ∃ j : Nat, j ≤ n2 ∧ v10 = .int .i64 j ∧ v9 = .bool (hasP (fun i => standB r (atId f n (L2 i)) (f k)) j) ∧ Below wr.heap.size wr wq) (fun _ v10 _ => n2 - (intOf v10).toNat)
      case atStart => exact ⟨0, Nat.zero_le _, rfl, rfl, Below.refl _ _⟩
      case round =>
        rename World => wq
        obtain ⟨j, hj, rfl, rfl, hbq⟩ := hrel
        have hzq := hbq.size
        have hbw : Below w.heap.size w wq := HBR.out.trans (hbq.mono (by omega))
        by_cases hlt2 : j < n2
        · have HH := Lib.hid (hasP_succ (fun i => standB r (atId f n (L2 i)) (f k)) j)
          rcases Bool.eq_false_or_eq_true (hasP (fun i => standB r (atId f n (L2 i)) (f k)) j) with ht | ht
          · rw [ht] at HH ⊢
            go_wp2_with fail
            refine wp_region_later (by kernel_rfl) (by kernel_rfl) (fun hlx => ?_)
            repeat (go_big_quiet_step (fail))
            refine wpQuiet_nil ?_
            clear hlx
            intro w4 hbw4
            obtain ⟨hzw4, hcw4, hfw4⟩ := bfacts hbw4; (try simp at hzw4 hcw4 hfw4); (try (have : w.heap.size < w4.heap.size := by omega)); (try (have : w.heap.size + 1 < w4.heap.size := by omega)); (try (have : w.heap.size + 1 + 1 < w4.heap.size := by omega)); (try (have : w.heap.size + 1 + 1 + 1 < w4.heap.size := by omega))
            go_wp2
            go_roundw
            case rel => exact ⟨j + 1, by omega, by go_num, by rw [HH.out]; rfl, by repeat' (first | (with_reducible exact Below.refl _ _) | (with_reducible assumption) | (with_reducible refine Below.alloc ?_ ?_ _) | (with_reducible refine Below.drew ?_) | (with_reducible refine Below.setCell ?_ ?_ _) | (with_reducible refine Below.stepB (by assumption) ?_ ?_) | go_size)⟩
            case measure => simp [intOf]; omega
          · rw [ht] at HH ⊢
            obtain ⟨b2, off2, rfl, hbl2, hbl2', d0⟩ := HS2.out.at (k := j) hbw hlt2
            obtain ⟨q, hq, e, -⟩ := HF.out j hlt2
            obtain ⟨b', off', hA', _, hbl3, x0, x1, x2, x3, x4, hx⟩ := HS.out.at hbw hq
            obtain ⟨rfl, rfl⟩ : b = b' ∧ off = off' := by simpa using hA'
            obtain ⟨b', off', hA3, _, _, y0, y1, y2, y3, y4, hy⟩ := HS.out.at hbw hlt
            obtain ⟨rfl, rfl⟩ : b = b' ∧ off = off' := by simpa using hA3
            clear hA' hA3 hx hy
            have f1 := fun (x : Later wq) => l8Find_any (some ⟨b, off, none⟩) n c f (L2 j) x.w (HS.out.below (Later.old x hbw (by omega))) hn
            rw [e] at f1
            have hst := fun (x : Later wq) => l16Stands_any (f q) (f k) r x.w (HG.out q hq) hok.out HR.out
            have HH2 : Hid (hasP (fun i => standB r (atId f n (L2 i)) (f k)) (j + 1) = standB r (f q) (f k)) := by show _ = _; rw [HH.out, atId_of e]; rfl
            generalize standB r (f q) (f k) = s at hst HH2
            have F1 := Lib.hid f1
            have HST := Lib.hid hst
            clear f1 hst e HH
            have HBW := Lib.hid hbw
            clear hbw
            go_wp2_with fail
            refine wp_region_later (by kernel_rfl) (by kernel_rfl) (fun hlx => ?_)
            repeat (go_big_quiet_step ((first | (go_at_call 67; with_reducible exact Later.same (F1.out _)) | (go_at_call 96; with_reducible exact Later.call (HST.out _)))))
            refine wpQuiet_nil ?_
            clear hlx
            intro w4 hbw4
            obtain ⟨hzw4, hcw4, hfw4⟩ := bfacts hbw4; (try simp at hzw4 hcw4 hfw4); (try (have : w.heap.size < w4.heap.size := by omega)); (try (have : w.heap.size + 1 < w4.heap.size := by omega)); (try (have : w.heap.size + 1 + 1 < w4.heap.size := by omega)); (try (have : w.heap.size + 1 + 1 + 1 < w4.heap.size := by omega))
            go_wp2
            go_roundw
            case rel => exact ⟨j + 1, by omega, by go_num, by rw [HH2.out], by repeat' (first | (with_reducible exact Below.refl _ _) | (with_reducible assumption) | (with_reducible refine Below.alloc ?_ ?_ _) | (with_reducible refine Below.drew ?_) | (with_reducible refine Below.setCell ?_ ?_ _) | (with_reducible refine Below.stepB (by assumption) ?_ ?_) | go_size)⟩
            case measure => simp [intOf]; omega
        · obtain rfl : j = n2 := by omega
          have HP : Hid (openP f n L2 j r k = !hasP (fun i => standB r (atId f n (L2 i)) (f k)) j) := rfl
          have HO4 := Lib.hid (ownsRow_below HO.out hbq)
          obtain ⟨b', off', hA', _, hbl3, y0, -⟩ := HS.out.at hbw hlt
          obtain ⟨rfl, rfl⟩ : b = b' ∧ off = off' := by simpa using hA'
          clear hA'
          rcases Bool.eq_false_or_eq_true (hasP (fun i => standB r (atId f n (L2 i)) (f k)) j) with ht | ht
          · rw [ht] at HP ⊢
            go_wp2
            go_roundw
            case rel => exact ⟨k + 1, by omega, by go_num, by rw [pick_miss HP.out]; exact HO4.out, hbw⟩
            case measure => simp [intOf]; omega
          · rw [ht] at HP ⊢
            go_wp2_with (at_builtin; refine wpList_append_int1 _ rfl _ _ 23 rfl w.heap.size 3 i0 Try.underlying23 hi0 hz0 hz1 hz2 _ _ _ rfl (HO4.out.alloc _) _ _ ((f k).id) rfl ?_ ?_ ?_ ?_; go_must (focus (simp; done)); go_must (focus omega); go_must (focus (simp; omega)); intro v9 w5 hOw5 hbw5; have hzw5 := hbw5.size; (try simp at hzw5))
            go_roundw
            case rel => exact ⟨k + 1, by omega, by go_num, by rw [pick_hit HP.out]; exact owns_snoc hOw5, by repeat' (first | (with_reducible exact Below.refl _ _) | (with_reducible assumption) | (with_reducible refine Below.alloc ?_ ?_ _) | (with_reducible refine Below.drew ?_) | (with_reducible refine Below.setCell ?_ ?_ _) | (with_reducible refine Below.stepB (by assumption) ?_ ?_) | go_size)⟩
            case measure => simp [intOf]; omega
    · obtain rfl : k = n := by omega
      go_wp2
      go_ret
      exact IntOut.row HO.out rfl (by omega) hbr
end Go.Proofs.Ytakkgagdbmlafaa
