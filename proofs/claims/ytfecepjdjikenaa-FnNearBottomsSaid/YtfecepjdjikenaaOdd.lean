/- Contracts: the odd samples: the program's and the reference's. -/
import Derived.Test.YtfecepjdjikenaaLetA
import Derived.Test.YtfecepjdjikenaaMean
import Derived.Test.YtfecepjdjikenaaPlain
import Derived.Test.YtfecepjdjikenaaOuts
namespace Go.Proofs.Ytfecepjdjikenaa
open Go.RowKit
theorem blk_newO {g : Nat} (w : World) (t : TypeId) (cs : Array Value) (hg : g = w.heap.size) : Blk (w.alloc (.cells cs t)) g t cs := by
  subst hg
  exact Blk.new w t cs
theorem intS_info : (Try.prog.info? 3).map (fun i => (i.zero, i.size, i.bytes)) = some (some (.int .i64 0), 1, 8) := by kernel_rfl
/-- another sample that is near -/
def nearO (f : Nat → BS) (far : Int) (i k : Nat) : Bool := !decide (k = i) && decide (sqD (f i).x (f i).y (f k).x (f k).y ≤ far * far)
def likeO (f : Nat → BS) (far : Int) (i k : Nat) : Bool := nearO f far i k && decide (lettV (f i) = lettV (f k))
def cntP (p : Nat → Bool) : Nat → Nat
  | 0 => 0
  | k + 1 => cntP p k + (if p k = true then 1 else 0)
theorem cntP_le (p : Nat → Bool) : ∀ k, cntP p k ≤ k
  | 0 => Nat.le_refl _
  | k + 1 => by
    have := cntP_le p k
    unfold cntP
    split <;> omega
theorem cntP_hit {p : Nat → Bool} {k : Nat} (h : p k = true) : cntP p (k + 1) = cntP p k + 1 := by simp [cntP, h]
theorem cntP_miss {p : Nat → Bool} {k : Nat} (h : p k = false) : cntP p (k + 1) = cntP p k := by simp [cntP, h]
def oddP (f : Nat → BS) (far : Int) (n i : Nat) : Bool := decide (0 < cntP (nearO f far i) n) && decide (cntP (likeO f far i) n = 0)
def oddOk (f : Nat → BS) (far : Int) (n : Nat) : Bool := (goodUpto f n && decide (n ≤ 12)) && inB far 0 2000
def oddT (f : Nat → BS) (far : Int) (n k : Nat) : List Int := pick (oddP f far n) (fun i => (f i).id) k
def oddL (f : Nat → BS) (far : Int) (n : Nat) : List Int := if oddOk f far n = true then oddT f far n n else []
theorem oddT_hit {f : Nat → BS} {far : Int} {n k : Nat} (h : oddP f far n k = true) : oddT f far n (k + 1) = oddT f far n k ++ [(f k).id] := pick_hit h
theorem oddT_miss {f : Nat → BS} {far : Int} {n k : Nat} (h : oddP f far n k = false) : oddT f far n (k + 1) = oddT f far n k := pick_miss h
theorem oddL_len (f : Nat → BS) (far : Int) (n : Nat) (hn : n ≤ 1048576) : (oddL f far n).length ≤ 1048576 := by
  unfold oddL oddT
  split
  · exact Nat.le_trans (pick_len n) hn
  · simp
theorem OddSamples_no (A : Option Addr) (n c : Nat) (f : Nat → BS) (far : Int) (w : World) (hS : SlS w A n f) (hn : n ≤ 1048576) (h : oddOk f far n = false) :
    Calls Try.prog 41 #[.slice A n c, .int .i64 far] w fun e w' => IntsOut w [] false e w' := by
  have hA := fun W (hb : Below w.heap.size w W) => AreSamples_any A n c f W (hS.below hb) hn
  unfold oddOk at h
  generalize (goodUpto f n && decide (n ≤ 12)) = r at h hA
  have HA := Lib.hid hA
  clear hA hS
  rcases Bool.eq_false_or_eq_true (inB far 0 2000) with hf | hf <;> cases r
  all_goals first | (exfalso; rw [hf] at h; exact absurd h (by decide)) | skip
  all_goals
    clear h
    go_enter Try.func41, Try.ntmps41
    go_wp2_with fail
    refine (HA.out _ (by repeat' (first | (with_reducible exact Below.refl _ _) | (with_reducible assumption) | (with_reducible refine Below.alloc ?_ ?_ _) | (with_reducible refine Below.drew ?_) | (with_reducible refine Below.setCell ?_ ?_ _) | (with_reducible refine Below.stepB (by assumption) ?_ ?_) | go_size))).mono ?_
    rintro e w1 ⟨rfl, hbw1⟩
    obtain ⟨hzw1, hcw1, hfw1⟩ := bfacts hbw1; (try simp at hzw1 hcw1 hfw1); (try (have : w.heap.size < w1.heap.size := by omega)); (try (have : w.heap.size + 1 < w1.heap.size := by omega)); (try (have : w.heap.size + 1 + 1 < w1.heap.size := by omega)); (try (have : w.heap.size + 1 + 1 + 1 < w1.heap.size := by omega))
    go_wp2_with (go_at_call 74; refine (isFar_any _ _).mono ?_; rintro e w' ⟨rfl, rfl⟩)
    go_ret2
    exact IntsOut.none rfl rfl (by repeat' (first | (with_reducible exact Below.refl _ _) | (with_reducible assumption) | (with_reducible refine Below.alloc ?_ ?_ _) | (with_reducible refine Below.drew ?_) | (with_reducible refine Below.setCell ?_ ?_ _) | (with_reducible refine Below.stepB (by assumption) ?_ ?_) | go_size))
theorem specOdd_no (A : Option Addr) (n c : Nat) (f : Nat → BS) (far : Int) (w : World) (hS : SlS w A n f) (hn : n ≤ 1048576) (h : oddOk f far n = false) :
    Calls Try.prog 40 #[.slice A n c, .int .i64 far] w fun e w' => IntsOut w [] false e w' := by
  have hA := fun W (hb : Below w.heap.size w W) => l18Good_any A n c f W (hS.below hb) hn
  unfold oddOk at h
  generalize (goodUpto f n && decide (n ≤ 12)) = r at h hA
  have HA := Lib.hid hA
  clear hA hS
  rcases Bool.eq_false_or_eq_true (inB far 0 2000) with hf | hf <;> cases r
  all_goals first | (exfalso; rw [hf] at h; exact absurd h (by decide)) | skip
  all_goals
    clear h
    go_enter Try.func40, Try.ntmps40
    go_wp2_with fail
    refine (HA.out _ (by repeat' (first | (with_reducible exact Below.refl _ _) | (with_reducible assumption) | (with_reducible refine Below.alloc ?_ ?_ _) | (with_reducible refine Below.drew ?_) | (with_reducible refine Below.setCell ?_ ?_ _) | (with_reducible refine Below.stepB (by assumption) ?_ ?_) | go_size))).mono ?_
    rintro e w1 ⟨rfl, hbw1⟩
    obtain ⟨hzw1, hcw1, hfw1⟩ := bfacts hbw1; (try simp at hzw1 hcw1 hfw1); (try (have : w.heap.size < w1.heap.size := by omega)); (try (have : w.heap.size + 1 < w1.heap.size := by omega)); (try (have : w.heap.size + 1 + 1 < w1.heap.size := by omega)); (try (have : w.heap.size + 1 + 1 + 1 < w1.heap.size := by omega))
    go_wp2_with (go_at_call 73; refine (l17Far_any _ _).mono ?_; rintro e w' ⟨rfl, rfl⟩)
    go_ret2
    exact IntsOut.none rfl rfl (by repeat' (first | (with_reducible exact Below.refl _ _) | (with_reducible assumption) | (with_reducible refine Below.alloc ?_ ?_ _) | (with_reducible refine Below.drew ?_) | (with_reducible refine Below.setCell ?_ ?_ _) | (with_reducible refine Below.stepB (by assumption) ?_ ?_) | go_size))
set_option maxRecDepth 100000 in
set_option maxHeartbeats 2000000 in
theorem OddSamples_yes (A : Option Addr) (n c : Nat) (f : Nat → BS) (far : Int) (w : World) (hS : SlS w A n f) (hn : n ≤ 1048576) (hg : goodUpto f n = true) (h12 : n ≤ 12) (hf : inB far 0 2000 = true) :
    Calls Try.prog 41 #[.slice A n c, .int .i64 far] w fun e w' => IntsOut w (oddT f far n n) true e w' := by
  have hok := Lib.hid (good_lt hg)
  have hret : (goodUpto f n && decide (n ≤ 12)) = true := by simp [hg, h12]
  have hA := fun W (hb : Below w.heap.size w W) => AreSamples_any A n c f W (hS.below hb) hn
  rw [hret] at hA
  have HA := Lib.hid hA
  obtain ⟨q1, q2⟩ := far_bd hf
  have HSQ := Lib.hid (fun i k (hi : i < n) (hk : k < n) W => squareOf_any (f i).x (f i).y (f k).x (f k).y W (okS_spot (hok.out i hi)) (okS_spot (hok.out k hk)))
  have HLT := Lib.hid (fun i (hi : i < n) W => lettersOf_any (f i) W (hok.out i hi))
  obtain ⟨i0, hi0, hz0, hz1, hz2⟩ := info_parts intS_info
  have HS := Lib.hid hS
  clear hA hS hg hret
  go_enter Try.func41, Try.ntmps41
  go_wp2_with fail
  refine (HA.out _ (by repeat' (first | (with_reducible exact Below.refl _ _) | (with_reducible assumption) | (with_reducible refine Below.alloc ?_ ?_ _) | (with_reducible refine Below.drew ?_) | (with_reducible refine Below.setCell ?_ ?_ _) | (with_reducible refine Below.stepB (by assumption) ?_ ?_) | go_size))).mono ?_
  rintro e w1 ⟨rfl, hbw1⟩
  obtain ⟨hzw1, hcw1, hfw1⟩ := bfacts hbw1; (try simp at hzw1 hcw1 hfw1); (try (have : w.heap.size < w1.heap.size := by omega)); (try (have : w.heap.size + 1 < w1.heap.size := by omega)); (try (have : w.heap.size + 1 + 1 < w1.heap.size := by omega)); (try (have : w.heap.size + 1 + 1 + 1 < w1.heap.size := by omega))
  go_wp2_with (go_at_call 74; refine (isFar_any _ _).mono ?_; rintro e w' ⟨rfl, rfl⟩)
  have hO0 := Lib.hid (ownsRow_empty w1 3 1)
  go_loopw [6, 24] (fun v6 v24 wr => ∃ i : Nat, i ≤ n ∧ v24 = .int .i64 i ∧ Hid (wr.ownsRow w1.heap.size 3 1 v6 (oddT f far n i).length ((oddT f far n i).map (Value.int .i64))) ∧ Below w.heap.size w wr ∧ w1.heap.size ≤ wr.heap.size) (fun _ v24 _ => n - (intOf v24).toNat)
  case atStart => exact ⟨0, Nat.zero_le _, rfl, hO0.out, by repeat' (first | (with_reducible exact Below.refl _ _) | (with_reducible assumption) | (with_reducible refine Below.alloc ?_ ?_ _) | (with_reducible refine Below.drew ?_) | (with_reducible refine Below.setCell ?_ ?_ _) | (with_reducible refine Below.stepB (by assumption) ?_ ?_) | go_size), by go_size⟩
  case round =>
    clear hO0
    obtain ⟨i, hi, rfl, hO, hbr, hzr1⟩ := hrel
    have hzr := hbr.size
    obtain ⟨A6, c6, rfl⟩ := ownsRow_form hO.out
    by_cases hlt : i < n
    · obtain ⟨b, off, rfl, hbl, hbl2, c0, c1, c2, c3, c4, c5, -⟩ := HS.out.at hbr hlt
      have HBR := Lib.hid hbr
      have hlen : (oddT f far n i).length ≤ i := pick_len i
      clear hbr
      go_wp2
      go_loopw [9, 10, 31] (fun v9 v10 v31 wq => ∃ k : Nat, k ≤ n ∧ v31 = .int .i64 k ∧ v9 = .int .i64 (cntP (nearO f far i) k) ∧ v10 = .int .i64 (cntP (likeO f far i) k) ∧ Blk wq wr.heap.size 29 (f i).arr ∧ Below wr.heap.size wr wq) (fun _ _ v31 _ => n - (intOf v31).toNat)
      case atStart => exact ⟨0, Nat.zero_le _, rfl, rfl, rfl, Blk.new _ _ _, by repeat' (first | (with_reducible exact Below.refl _ _) | (with_reducible assumption) | (with_reducible refine Below.alloc ?_ ?_ _) | (with_reducible refine Below.drew ?_) | (with_reducible refine Below.setCell ?_ ?_ _) | (with_reducible refine Below.stepB (by assumption) ?_ ?_) | go_size)⟩
      case round =>
        rename World => wq
        obtain ⟨k, hk, rfl, rfl, rfl, hB, hbq⟩ := hrel
        have hzq := hbq.size
        clear c0 c1 c2 c3 c4 c5
        obtain ⟨hl8, a0, a1, a2, a3, a4, a5, hf8⟩ := BlkS.cells hB
        have HB := Lib.hid hB
        have hcn := cntP_le (nearO f far i) k
        have hcl := cntP_le (likeO f far i) k
        clear hB
        by_cases hkl : k < n
        · have HBQ := Lib.hid (show Below w.heap.size w wq from HBR.out.trans (hbq.mono (by omega)))
          obtain ⟨b', off', hA', _, _, d0, d1, d2, d3, d4, d5, -⟩ := HS.out.at HBQ.out hkl
          obtain ⟨rfl, rfl⟩ : b = b' ∧ off = off' := by simpa using hA'
          clear hA'
          by_cases hki : k = i
          · have HN : Hid (nearO f far i k = false) := by show _ = _; simp [nearO, hki]
            have HL : Hid (likeO f far i k = false) := by show _ = _; simp [likeO, HN.out]
            have hkb : ((k : Int) == (i : Int)) = true := by simp [hki]
            clear hki
            go_wp2
            go_roundw
            case rel => exact ⟨k + 1, by omega, by go_num, by rw [cntP_miss HN.out], by rw [cntP_miss HL.out], HB.out.alloc _, by repeat' (first | (with_reducible exact Below.refl _ _) | (with_reducible assumption) | (with_reducible refine Below.alloc ?_ ?_ _) | (with_reducible refine Below.drew ?_) | (with_reducible refine Below.setCell ?_ ?_ _) | (with_reducible refine Below.stepB (by assumption) ?_ ?_) | go_size)⟩
            case measure => simp [intOf]; omega
          · have hkb : ((k : Int) == (i : Int)) = false := by simp; omega
            have HKI := Lib.hid hki
            clear hki
            go_wp2_with fail
            refine (HSQ.out i k hlt hkl _).mono ?_
            rintro e w3 ⟨rfl, hbw3⟩
            obtain ⟨hzw3, hcw3, hfw3⟩ := bfacts hbw3; (try simp at hzw3 hcw3 hfw3); (try (have : w.heap.size < w3.heap.size := by omega)); (try (have : w.heap.size + 1 < w3.heap.size := by omega)); (try (have : w.heap.size + 1 + 1 < w3.heap.size := by omega)); (try (have : w.heap.size + 1 + 1 + 1 < w3.heap.size := by omega))
            have lr3 : wr.heap.size < w3.heap.size := by omega
            have lq3 : wq.heap.size < w3.heap.size := by omega
            by_cases hq : sqD (f i).x (f i).y (f k).x (f k).y ≤ far * far
            · have HN : Hid (nearO f far i k = true) := by show _ = _; simp [nearO, HKI.out, hq]
              have hLi := fun W => HLT.out i hlt W
              have hLk := fun W => HLT.out k hkl W
              obtain ⟨si, hsi⟩ : ∃ si, lettV (f i) = si := ⟨_, rfl⟩
              obtain ⟨sk, hsk⟩ : ∃ sk, lettV (f k) = sk := ⟨_, rfl⟩
              have hiff : si = sk ↔ lettV (f i) = lettV (f k) := by rw [hsi, hsk]
              rw [hsi] at hLi
              rw [hsk] at hLk
              have HLi := Lib.hid hLi
              have HLk := Lib.hid hLk
              clear hLi hLk hsi hsk
              by_cases hs : si = sk
              · have HL : Hid (likeO f far i k = true) := by show _ = _; simp [likeO, HN.out, hiff.1 hs]
                subst hs
                clear hiff
                go_wp2
                refine wp_region_later (by kernel_rfl) (by kernel_rfl) (fun hlx => ?_)
                repeat (go_big_quiet_step ((first | (go_at_call 76; with_reducible exact Later.call (HLi.out _)) | (go_at_call 76; with_reducible exact Later.call (HLk.out _)))))
                refine wpQuiet_nil ?_
                clear hlx
                intro w4 hbw4
                obtain ⟨hzw4, hcw4, hfw4⟩ := bfacts hbw4; (try simp at hzw4 hcw4 hfw4); (try (have : w.heap.size < w4.heap.size := by omega)); (try (have : w.heap.size + 1 < w4.heap.size := by omega)); (try (have : w.heap.size + 1 + 1 < w4.heap.size := by omega)); (try (have : w.heap.size + 1 + 1 + 1 < w4.heap.size := by omega))
                go_wp2
                go_roundw
                case rel => exact ⟨k + 1, by omega, by go_num, by rw [cntP_hit HN.out]; go_num, by rw [cntP_hit HL.out]; go_num, HB.out.below (B := wq.heap.size) (by repeat' (first | (with_reducible exact Below.refl _ _) | (with_reducible assumption) | (with_reducible refine Below.alloc ?_ ?_ _) | (with_reducible refine Below.drew ?_) | (with_reducible refine Below.setCell ?_ ?_ _) | (with_reducible refine Below.stepB (by assumption) ?_ ?_) | go_size)) hl8, by repeat' (first | (with_reducible exact Below.refl _ _) | (with_reducible assumption) | (with_reducible refine Below.alloc ?_ ?_ _) | (with_reducible refine Below.drew ?_) | (with_reducible refine Below.setCell ?_ ?_ _) | (with_reducible refine Below.stepB (by assumption) ?_ ?_) | go_size)⟩
                case measure => simp [intOf]; omega
              · have HL : Hid (likeO f far i k = false) := by have hnl : ¬ lettV (f i) = lettV (f k) := (fun h => hs (hiff.2 h)); show _ = _; simp [likeO, hnl]
                have hsb : (si == sk) = false := by simpa using hs
                have hsd : decide (si = sk) = false := decide_eq_false hs
                clear hiff hs
                go_wp2
                refine wp_region_later (by kernel_rfl) (by kernel_rfl) (fun hlx => ?_)
                repeat (go_big_quiet_step ((first | (go_at_call 76; with_reducible exact Later.call (HLi.out _)) | (go_at_call 76; with_reducible exact Later.call (HLk.out _)))))
                refine wpQuiet_nil ?_
                clear hlx
                intro w4 hbw4
                obtain ⟨hzw4, hcw4, hfw4⟩ := bfacts hbw4; (try simp at hzw4 hcw4 hfw4); (try (have : w.heap.size < w4.heap.size := by omega)); (try (have : w.heap.size + 1 < w4.heap.size := by omega)); (try (have : w.heap.size + 1 + 1 < w4.heap.size := by omega)); (try (have : w.heap.size + 1 + 1 + 1 < w4.heap.size := by omega))
                go_wp2
                go_roundw
                case rel => exact ⟨k + 1, by omega, by go_num, by rw [cntP_hit HN.out]; go_num, by rw [cntP_miss HL.out], HB.out.below (B := wq.heap.size) (by repeat' (first | (with_reducible exact Below.refl _ _) | (with_reducible assumption) | (with_reducible refine Below.alloc ?_ ?_ _) | (with_reducible refine Below.drew ?_) | (with_reducible refine Below.setCell ?_ ?_ _) | (with_reducible refine Below.stepB (by assumption) ?_ ?_) | go_size)) hl8, by repeat' (first | (with_reducible exact Below.refl _ _) | (with_reducible assumption) | (with_reducible refine Below.alloc ?_ ?_ _) | (with_reducible refine Below.drew ?_) | (with_reducible refine Below.setCell ?_ ?_ _) | (with_reducible refine Below.stepB (by assumption) ?_ ?_) | go_size)⟩
                case measure => simp [intOf]; omega
            · have HN : Hid (nearO f far i k = false) := by show _ = _; simp [nearO, hq]
              have HL : Hid (likeO f far i k = false) := by show _ = _; simp [likeO, HN.out]
              go_wp2
              go_roundw
              case rel => exact ⟨k + 1, by omega, by go_num, by rw [cntP_miss HN.out], by rw [cntP_miss HL.out], HB.out.below (B := wq.heap.size) (by repeat' (first | (with_reducible exact Below.refl _ _) | (with_reducible assumption) | (with_reducible refine Below.alloc ?_ ?_ _) | (with_reducible refine Below.drew ?_) | (with_reducible refine Below.setCell ?_ ?_ _) | (with_reducible refine Below.stepB (by assumption) ?_ ?_) | go_size)) hl8, by repeat' (first | (with_reducible exact Below.refl _ _) | (with_reducible assumption) | (with_reducible refine Below.alloc ?_ ?_ _) | (with_reducible refine Below.drew ?_) | (with_reducible refine Below.setCell ?_ ?_ _) | (with_reducible refine Below.stepB (by assumption) ?_ ?_) | go_size)⟩
              case measure => simp [intOf]; omega
        · obtain rfl : k = n := by omega
          have HBQ := Lib.hid (show Below w.heap.size w wq from HBR.out.trans (hbq.mono (by omega)))
          have HQ := Lib.hid (ownsRow_below hO.out (Below.trans (Below.refl _ _) hbq))
          obtain ⟨x, hx⟩ : ∃ x, cntP (nearO f far i) k = x := ⟨_, rfl⟩
          obtain ⟨y, hy⟩ : ∃ y, cntP (likeO f far i) k = y := ⟨_, rfl⟩
          have HE : Hid (oddP f far k i = (decide (0 < x) && decide (y = 0))) := by show _ = _; rw [oddP, hx, hy]
          rw [hx, hy]
          clear hx hy hcn hcl hO
          rcases Nat.eq_zero_or_pos x with rfl | hx0
          · have HM : Hid (oddP f far k i = false) := by show _ = _; rw [HE.out]; simp
            go_wp2
            go_roundw
            case rel => exact ⟨i + 1, by omega, by go_num, by rw [oddT_miss HM.out]; exact HQ.out, by have := HBR.out; repeat' (first | (with_reducible exact Below.refl _ _) | (with_reducible assumption) | (with_reducible refine Below.alloc ?_ ?_ _) | (with_reducible refine Below.drew ?_) | (with_reducible refine Below.setCell ?_ ?_ _) | (with_reducible refine Below.stepB (by assumption) ?_ ?_) | go_size), by omega⟩
            case measure => simp [intOf]; omega
          · have hxz : (0 : Int) < (x : Int) := by omega
            rcases Nat.eq_zero_or_pos y with rfl | hy0
            · have HM : Hid (oddP f far k i = true) := by show _ = _; rw [HE.out]; simp [hx0]
              go_wp2_with (at_builtin; refine wpList_append_int1 _ rfl _ _ 51 rfl w1.heap.size 3 i0 Try.underlying51 hi0 hz0 hz1 hz2 _ _ _ rfl ((HQ.out.alloc _)) _ _ ((f i).id) rfl ?_ ?_ ?_ ?_; go_must (focus (simp; done)); go_must (focus omega); go_must (focus (simp; omega)); intro v9 w4 hOw4 hbw4; have hzw4 := hbw4.size; (try simp at hzw4))
              go_roundw
              case rel => exact ⟨i + 1, by omega, by go_num, by rw [oddT_hit HM.out]; exact owns_snoc hOw4, by have := HBQ.out; repeat' (first | (with_reducible exact Below.refl _ _) | (with_reducible assumption) | (with_reducible refine Below.alloc ?_ ?_ _) | (with_reducible refine Below.drew ?_) | (with_reducible refine Below.setCell ?_ ?_ _) | (with_reducible refine Below.stepB (by assumption) ?_ ?_) | go_size), by omega⟩
              case measure => simp [intOf]; omega
            · have HM : Hid (oddP f far k i = false) := by show _ = _; rw [HE.out]; simp; omega
              have hyb : ((y : Int) == 0) = false := by simp; omega
              go_wp2
              go_roundw
              case rel => exact ⟨i + 1, by omega, by go_num, by rw [oddT_miss HM.out]; exact HQ.out, by have := HBR.out; repeat' (first | (with_reducible exact Below.refl _ _) | (with_reducible assumption) | (with_reducible refine Below.alloc ?_ ?_ _) | (with_reducible refine Below.drew ?_) | (with_reducible refine Below.setCell ?_ ?_ _) | (with_reducible refine Below.stepB (by assumption) ?_ ?_) | go_size), by omega⟩
              case measure => simp [intOf]; omega
    · obtain rfl : i = n := by omega
      have HO := Lib.hid hO
      clear hO
      go_wp2
      go_ret2
      exact IntsOut.row HO.out.out rfl rfl (by omega) (by repeat' (first | (with_reducible exact Below.refl _ _) | (with_reducible assumption) | (with_reducible refine Below.alloc ?_ ?_ _) | (with_reducible refine Below.drew ?_) | (with_reducible refine Below.setCell ?_ ?_ _) | (with_reducible refine Below.stepB (by assumption) ?_ ?_) | go_size))
set_option maxRecDepth 100000 in
set_option maxHeartbeats 2000000 in
theorem specOdd_yes (A : Option Addr) (n c : Nat) (f : Nat → BS) (far : Int) (w : World) (hS : SlS w A n f) (hn : n ≤ 1048576) (hg : goodUpto f n = true) (h12 : n ≤ 12) (hf : inB far 0 2000 = true) :
    Calls Try.prog 40 #[.slice A n c, .int .i64 far] w fun e w' => IntsOut w (oddT f far n n) true e w' := by
  have hok := Lib.hid (good_lt hg)
  have hret : (goodUpto f n && decide (n ≤ 12)) = true := by simp [hg, h12]
  have hA := fun W (hb : Below w.heap.size w W) => l18Good_any A n c f W (hS.below hb) hn
  rw [hret] at hA
  have HA := Lib.hid hA
  obtain ⟨q1, q2⟩ := far_bd hf
  have HSQ := Lib.hid (fun i k (hi : i < n) (hk : k < n) W => l17Square_any (f i).x (f i).y (f k).x (f k).y W (okS_spot (hok.out i hi)) (okS_spot (hok.out k hk)))
  have HLT := Lib.hid (fun i (hi : i < n) W => l18Letters_any (f i) W (hok.out i hi))
  obtain ⟨i0, hi0, hz0, hz1, hz2⟩ := info_parts intS_info
  have HS := Lib.hid hS
  clear hA hS hg hret
  go_enter Try.func40, Try.ntmps40
  go_wp2_with fail
  refine (HA.out _ (by repeat' (first | (with_reducible exact Below.refl _ _) | (with_reducible assumption) | (with_reducible refine Below.alloc ?_ ?_ _) | (with_reducible refine Below.drew ?_) | (with_reducible refine Below.setCell ?_ ?_ _) | (with_reducible refine Below.stepB (by assumption) ?_ ?_) | go_size))).mono ?_
  rintro e w1 ⟨rfl, hbw1⟩
  obtain ⟨hzw1, hcw1, hfw1⟩ := bfacts hbw1; (try simp at hzw1 hcw1 hfw1); (try (have : w.heap.size < w1.heap.size := by omega)); (try (have : w.heap.size + 1 < w1.heap.size := by omega)); (try (have : w.heap.size + 1 + 1 < w1.heap.size := by omega)); (try (have : w.heap.size + 1 + 1 + 1 < w1.heap.size := by omega))
  go_wp2_with (go_at_call 73; refine (l17Far_any _ _).mono ?_; rintro e w' ⟨rfl, rfl⟩)
  have hO0 := Lib.hid (ownsRow_below (ownsRow_empty w 3 1) hbw1)
  go_loopw [6, 7] (fun v6 v7 wr => ∃ i : Nat, i ≤ n ∧ v7 = .int .i64 i ∧ Hid (wr.ownsRow w.heap.size 3 1 v6 (oddT f far n i).length ((oddT f far n i).map (Value.int .i64))) ∧ Below w.heap.size w wr) (fun _ v7 _ => n - (intOf v7).toNat)
  case atStart => exact ⟨0, Nat.zero_le _, rfl, hO0.out, by repeat' (first | (with_reducible exact Below.refl _ _) | (with_reducible assumption) | (with_reducible refine Below.alloc ?_ ?_ _) | (with_reducible refine Below.drew ?_) | (with_reducible refine Below.setCell ?_ ?_ _) | (with_reducible refine Below.stepB (by assumption) ?_ ?_) | go_size)⟩
  case round =>
    clear hO0
    obtain ⟨i, hi, rfl, hO, hbr⟩ := hrel
    have hzr := hbr.size
    obtain ⟨A6, c6, rfl⟩ := ownsRow_form hO.out
    by_cases hlt : i < n
    · have HBR := Lib.hid hbr
      have hlen : (oddT f far n i).length ≤ i := pick_len i
      clear hbr
      go_wp2
      go_loopw [8, 9, 10] (fun v8 v9 v10 wq => ∃ k : Nat, k ≤ n ∧ v10 = .int .i64 k ∧ v8 = .int .i64 (cntP (nearO f far i) k) ∧ v9 = .int .i64 (cntP (likeO f far i) k) ∧ Below wr.heap.size wr wq) (fun _ _ v10 _ => n - (intOf v10).toNat)
      case atStart => exact ⟨0, Nat.zero_le _, rfl, rfl, rfl, Below.refl _ _⟩
      case round =>
        rename World => wq
        obtain ⟨k, hk, rfl, rfl, rfl, hbq⟩ := hrel
        have hzq := hbq.size
        have HBQ := Lib.hid (show Below w.heap.size w wq from HBR.out.trans (hbq.mono (by omega)))
        obtain ⟨b, off, rfl, hbl, hbl2, c0, c1, c2, c3, c4, c5, -⟩ := HS.out.at HBQ.out hlt
        have hcn := cntP_le (nearO f far i) k
        have hcl := cntP_le (likeO f far i) k
        have hin : (i : Int) < (n : Int) := by omega
        by_cases hkl : k < n
        · obtain ⟨b', off', hA', _, _, d0, d1, d2, d3, d4, d5, -⟩ := HS.out.at HBQ.out hkl
          obtain ⟨rfl, rfl⟩ : b = b' ∧ off = off' := by simpa using hA'
          have hkn : (k : Int) < (n : Int) := by omega
          clear hA'
          by_cases hki : k = i
          · have HN : Hid (nearO f far i k = false) := by show _ = _; simp [nearO, hki]
            have HL : Hid (likeO f far i k = false) := by show _ = _; simp [likeO, HN.out]
            have hkb : ((k : Int) == (i : Int)) = true := by simp [hki]
            clear hki
            go_wp2
            refine wp_region_later (by kernel_rfl) (by kernel_rfl) (fun hlx => ?_)
            repeat (go_big_quiet_step (fail))
            refine wpQuiet_nil ?_
            clear hlx
            intro w3 hbw3
            obtain ⟨hzw3, hcw3, hfw3⟩ := bfacts hbw3; (try simp at hzw3 hcw3 hfw3); (try (have : w.heap.size < w3.heap.size := by omega)); (try (have : w.heap.size + 1 < w3.heap.size := by omega)); (try (have : w.heap.size + 1 + 1 < w3.heap.size := by omega)); (try (have : w.heap.size + 1 + 1 + 1 < w3.heap.size := by omega))
            go_wp2
            go_roundw
            case rel => exact ⟨k + 1, by omega, by go_num, by rw [cntP_miss HN.out], by rw [cntP_miss HL.out], by repeat' (first | (with_reducible exact Below.refl _ _) | (with_reducible assumption) | (with_reducible refine Below.alloc ?_ ?_ _) | (with_reducible refine Below.drew ?_) | (with_reducible refine Below.setCell ?_ ?_ _) | (with_reducible refine Below.stepB (by assumption) ?_ ?_) | go_size)⟩
            case measure => simp [intOf]; omega
          · have hkb : ((k : Int) == (i : Int)) = false := by simp; omega
            have HKI := Lib.hid hki
            clear hki
            go_wp2
            refine wp_region_later (by kernel_rfl) (by kernel_rfl) (fun hlx => ?_)
            repeat (go_big_quiet_step ((go_at_call 71; exact Later.call (HSQ.out i k hlt hkl _))))
            refine wpQuiet_nil ?_
            clear hlx
            intro w3 hbw3
            obtain ⟨hzw3, hcw3, hfw3⟩ := bfacts hbw3; (try simp at hzw3 hcw3 hfw3); (try (have : w.heap.size < w3.heap.size := by omega)); (try (have : w.heap.size + 1 < w3.heap.size := by omega)); (try (have : w.heap.size + 1 + 1 < w3.heap.size := by omega)); (try (have : w.heap.size + 1 + 1 + 1 < w3.heap.size := by omega))
            have lb3 : b < w3.heap.size := by omega
            by_cases hq : sqD (f i).x (f i).y (f k).x (f k).y ≤ far * far
            · have HN : Hid (nearO f far i k = true) := by show _ = _; simp [nearO, HKI.out, hq]
              have hLi := fun W => HLT.out i hlt W
              have hLk := fun W => HLT.out k hkl W
              obtain ⟨si, hsi⟩ : ∃ si, lettV (f i) = si := ⟨_, rfl⟩
              obtain ⟨sk, hsk⟩ : ∃ sk, lettV (f k) = sk := ⟨_, rfl⟩
              have hiff : sk = si ↔ lettV (f k) = lettV (f i) := by rw [hsi, hsk]
              rw [hsi] at hLi
              rw [hsk] at hLk
              have HLi := Lib.hid hLi
              have HLk := Lib.hid hLk
              clear hLi hLk hsi hsk
              by_cases hs : sk = si
              · have HL : Hid (likeO f far i k = true) := by show _ = _; simp [likeO, HN.out, hiff.1 hs]
                subst hs
                clear hiff
                go_wp2
                refine wp_region_later (by kernel_rfl) (by kernel_rfl) (fun hlx => ?_)
                repeat (go_big_quiet_step ((first | (go_at_call 75; with_reducible exact Later.call (HLk.out _)) | (go_at_call 75; with_reducible exact Later.call (HLi.out _)))))
                refine wpQuiet_nil ?_
                clear hlx
                intro w4 hbw4
                obtain ⟨hzw4, hcw4, hfw4⟩ := bfacts hbw4; (try simp at hzw4 hcw4 hfw4); (try (have : w.heap.size < w4.heap.size := by omega)); (try (have : w.heap.size + 1 < w4.heap.size := by omega)); (try (have : w.heap.size + 1 + 1 < w4.heap.size := by omega)); (try (have : w.heap.size + 1 + 1 + 1 < w4.heap.size := by omega))
                go_wp2
                go_roundw
                case rel => exact ⟨k + 1, by omega, by go_num, by rw [cntP_hit HN.out]; go_num, by rw [cntP_hit HL.out]; go_num, by repeat' (first | (with_reducible exact Below.refl _ _) | (with_reducible assumption) | (with_reducible refine Below.alloc ?_ ?_ _) | (with_reducible refine Below.drew ?_) | (with_reducible refine Below.setCell ?_ ?_ _) | (with_reducible refine Below.stepB (by assumption) ?_ ?_) | go_size)⟩
                case measure => simp [intOf]; omega
              · have HL : Hid (likeO f far i k = false) := by have hnl : ¬ lettV (f i) = lettV (f k) := (fun h => hs (hiff.2 h.symm)); show _ = _; simp [likeO, hnl]
                have hsb : (sk == si) = false := by simpa using hs
                clear hiff hs
                go_wp2
                refine wp_region_later (by kernel_rfl) (by kernel_rfl) (fun hlx => ?_)
                repeat (go_big_quiet_step ((first | (go_at_call 75; with_reducible exact Later.call (HLk.out _)) | (go_at_call 75; with_reducible exact Later.call (HLi.out _)))))
                refine wpQuiet_nil ?_
                clear hlx
                intro w4 hbw4
                obtain ⟨hzw4, hcw4, hfw4⟩ := bfacts hbw4; (try simp at hzw4 hcw4 hfw4); (try (have : w.heap.size < w4.heap.size := by omega)); (try (have : w.heap.size + 1 < w4.heap.size := by omega)); (try (have : w.heap.size + 1 + 1 < w4.heap.size := by omega)); (try (have : w.heap.size + 1 + 1 + 1 < w4.heap.size := by omega))
                go_wp2
                go_roundw
                case rel => exact ⟨k + 1, by omega, by go_num, by rw [cntP_hit HN.out]; go_num, by rw [cntP_miss HL.out], by repeat' (first | (with_reducible exact Below.refl _ _) | (with_reducible assumption) | (with_reducible refine Below.alloc ?_ ?_ _) | (with_reducible refine Below.drew ?_) | (with_reducible refine Below.setCell ?_ ?_ _) | (with_reducible refine Below.stepB (by assumption) ?_ ?_) | go_size)⟩
                case measure => simp [intOf]; omega
            · have HN : Hid (nearO f far i k = false) := by show _ = _; simp [nearO, hq]
              have HL : Hid (likeO f far i k = false) := by show _ = _; simp [likeO, HN.out]
              go_wp2
              go_roundw
              case rel => exact ⟨k + 1, by omega, by go_num, by rw [cntP_miss HN.out], by rw [cntP_miss HL.out], by repeat' (first | (with_reducible exact Below.refl _ _) | (with_reducible assumption) | (with_reducible refine Below.alloc ?_ ?_ _) | (with_reducible refine Below.drew ?_) | (with_reducible refine Below.setCell ?_ ?_ _) | (with_reducible refine Below.stepB (by assumption) ?_ ?_) | go_size)⟩
              case measure => simp [intOf]; omega
        · obtain rfl : k = n := by omega
          have HQ := Lib.hid (ownsRow_below hO.out hbq)
          obtain ⟨x, hx⟩ : ∃ x, cntP (nearO f far i) k = x := ⟨_, rfl⟩
          obtain ⟨y, hy⟩ : ∃ y, cntP (likeO f far i) k = y := ⟨_, rfl⟩
          have HE : Hid (oddP f far k i = (decide (0 < x) && decide (y = 0))) := by show _ = _; rw [oddP, hx, hy]
          rw [hx, hy]
          clear hx hy hcn hcl hO
          rcases Nat.eq_zero_or_pos x with rfl | hx0
          · have HM : Hid (oddP f far k i = false) := by show _ = _; rw [HE.out]; simp
            go_wp2
            go_roundw
            case rel => exact ⟨i + 1, by omega, by go_num, by rw [oddT_miss HM.out]; exact HQ.out, HBQ.out⟩
            case measure => simp [intOf]; omega
          · have hxz : (0 : Int) < (x : Int) := by omega
            rcases Nat.eq_zero_or_pos y with rfl | hy0
            · have HM : Hid (oddP f far k i = true) := by show _ = _; rw [HE.out]; simp [hx0]
              go_wp2_with (at_builtin; refine wpList_append_int1 _ rfl _ _ 51 rfl w.heap.size 3 i0 Try.underlying51 hi0 hz0 hz1 hz2 _ _ _ rfl ((HQ.out.alloc _)) _ _ ((f i).id) rfl ?_ ?_ ?_ ?_; go_must (focus (simp; done)); go_must (focus omega); go_must (focus (simp; omega)); intro v9 w4 hOw4 hbw4; have hzw4 := hbw4.size; (try simp at hzw4))
              go_roundw
              case rel => exact ⟨i + 1, by omega, by go_num, by rw [oddT_hit HM.out]; exact owns_snoc hOw4, by have := HBQ.out; repeat' (first | (with_reducible exact Below.refl _ _) | (with_reducible assumption) | (with_reducible refine Below.alloc ?_ ?_ _) | (with_reducible refine Below.drew ?_) | (with_reducible refine Below.setCell ?_ ?_ _) | (with_reducible refine Below.stepB (by assumption) ?_ ?_) | go_size)⟩
              case measure => simp [intOf]; omega
            · have HM : Hid (oddP f far k i = false) := by show _ = _; rw [HE.out]; simp; omega
              have hyb : ((y : Int) == 0) = false := by simp; omega
              go_wp2
              go_roundw
              case rel => exact ⟨i + 1, by omega, by go_num, by rw [oddT_miss HM.out]; exact HQ.out, HBQ.out⟩
              case measure => simp [intOf]; omega
    · obtain rfl : i = n := by omega
      have HO := Lib.hid hO
      clear hO
      go_wp2
      go_ret2
      exact IntsOut.row HO.out.out rfl rfl (by omega) (by repeat' (first | (with_reducible exact Below.refl _ _) | (with_reducible assumption) | (with_reducible refine Below.alloc ?_ ?_ _) | (with_reducible refine Below.drew ?_) | (with_reducible refine Below.setCell ?_ ?_ _) | (with_reducible refine Below.stepB (by assumption) ?_ ?_) | go_size))
theorem OddSamples_any (A : Option Addr) (n c : Nat) (f : Nat → BS) (far : Int) (w : World) (hS : SlS w A n f) (hn : n ≤ 1048576) :
    Calls Try.prog 41 #[.slice A n c, .int .i64 far] w fun e w' => IntsOut w (oddL f far n) (oddOk f far n) e w' := by
  rcases Bool.eq_false_or_eq_true (oddOk f far n) with h | h
  · have h0 := h
    simp only [oddOk, Bool.and_eq_true, decide_eq_true_eq] at h0
    rw [oddL, h]
    exact OddSamples_yes A n c f far w hS hn h0.1.1 h0.1.2 h0.2
  · rw [oddL, h]
    exact OddSamples_no A n c f far w hS hn h
theorem specOdd_any (A : Option Addr) (n c : Nat) (f : Nat → BS) (far : Int) (w : World) (hS : SlS w A n f) (hn : n ≤ 1048576) :
    Calls Try.prog 40 #[.slice A n c, .int .i64 far] w fun e w' => IntsOut w (oddL f far n) (oddOk f far n) e w' := by
  rcases Bool.eq_false_or_eq_true (oddOk f far n) with h | h
  · have h0 := h
    simp only [oddOk, Bool.and_eq_true, decide_eq_true_eq] at h0
    rw [oddL, h]
    exact specOdd_yes A n c f far w hS hn h0.1.1 h0.1.2 h0.2
  · rw [oddL, h]
    exact specOdd_no A n c f far w hS hn h
end Go.Proofs.Ytfecepjdjikenaa
