/- Contracts of the reference's function that tells what a mesh is. -/
import Derived.Test.YtfflbkmncnaffaaMeshD
import Derived.Test.YtfflbkmncnaffaaMeshF
namespace Go.Proofs.Ytfflbkmncnaffaa
open Go.RowKit
theorem dup_eq (S : Nat → SP) (i j : Nat) : decide ((S i).x = (S j).x ∧ (S i).y = (S j).y) = decide ((S j).x = (S i).x ∧ (S j).y = (S i).y) := by
  rw [Bool.eq_iff_iff]
  simp only [decide_eq_true_eq]
  exact ⟨fun h => ⟨h.1.symm, h.2.symm⟩, fun h => ⟨h.1.symm, h.2.symm⟩⟩
set_option maxRecDepth 100000 in
set_option maxHeartbeats 16000000 in
theorem l15Good_yes (A : Option Addr) (n c : Nat) (S : Nat → SP) (A2 : Option Addr) (m c2 : Nat) (T : Nat → Nat → Int) (w : World) (hS : SlSP w A n S) (hS2 : SlT w A2 m T) (hn : n ≤ 1048576) (hm : m ≤ 1048576)
    (q1 : inB n 3 8 = true) (q2 : spotsB S n = true) (q3 : inB m 1 12 = true) :
    Calls Try.prog 88 #[.slice A n c, .slice A2 m c2] w fun e w' => e = .returned (.bool (meshB S n T m)) ∧ Below w.heap.size w w' := by
  have HV : Hid (meshB S n T m = (distB S n && allUpto (triOk S n T) m)) := by show _ = _; rw [meshB, q1, q2, q3]; rfl
  have hsp : ∀ i, i < n → spB (S i) = true := fun i hi => by
    simp only [spotsB, Bool.and_eq_true] at q2
    exact allUpto_lt q2.1 i hi
  have HSP := Lib.hid hsp
  have ha := fun W (hb : Below w.heap.size w W) => l2Spots_any A n c S W (hS.below hb) hn
  rw [q2] at ha
  have HA := Lib.hid ha
  have HS := Lib.hid hS
  have HS2 := Lib.hid hS2
  clear hS2 hsp ha q2
  go_enter Try.func88, Try.ntmps88
  go_wp2_with (first | (go_at_call 92; refine (l1In_any _ _ _ _).mono ?_; rintro e w' ⟨rfl, rfl⟩) | (go_at_call 123; refine (HA.out _ (by repeat' (first | (with_reducible exact Below.refl _ _) | (with_reducible assumption) | (with_reducible refine Below.alloc ?_ ?_ _) | (with_reducible refine Below.drew ?_) | (with_reducible refine Below.setCell ?_ ?_ _) | (with_reducible refine Below.stepB (by assumption) ?_ ?_) | go_size))).mono ?_; rintro e w1 ⟨rfl, hbw1⟩; obtain ⟨hzw1, hcw1, hfw1⟩ := bfacts hbw1; (try simp at hzw1 hcw1 hfw1); (try (have : w.heap.size < w1.heap.size := by omega)); (try (have : w.heap.size + 1 < w1.heap.size := by omega)); (try (have : w.heap.size + 1 + 1 < w1.heap.size := by omega)); (try (have : w.heap.size + 1 + 1 + 1 < w1.heap.size := by omega))))
  clear q1 q3
  go_loopw [5] (fun v wr => ∃ k : Nat, k ≤ n ∧ v = .int .i64 k ∧ Hid (allUpto (fun i => !dupB S i) k = true) ∧ Below w.heap.size w wr) (fun v _ => n - (intOf v).toNat)
  case atStart => exact ⟨0, Nat.zero_le _, rfl, rfl, by repeat' (first | (with_reducible exact Below.refl _ _) | (with_reducible assumption) | (with_reducible refine Below.alloc ?_ ?_ _) | (with_reducible refine Below.drew ?_) | (with_reducible refine Below.setCell ?_ ?_ _) | (with_reducible refine Below.stepB (by assumption) ?_ ?_) | go_size)⟩
  case round =>
    obtain ⟨k, hk, rfl, hall, hbr⟩ := hrel
    have hzr := hbr.size
    have HBR := Lib.hid hbr
    by_cases hlt : k < n
    · clear hbr
      go_wp2
      go_loopw [6] (fun v wq => ∃ j : Nat, j ≤ k ∧ v = .int .i64 j ∧ Hid (∀ i, i < j → decide ((S i).x = (S k).x ∧ (S i).y = (S k).y) = false) ∧ Below w.heap.size w wq) (fun v _ => k - (intOf v).toNat)
      case atStart => exact ⟨0, Nat.zero_le _, rfl, fun i hi => absurd hi (by omega), HBR.out⟩
      case round =>
        rename World => wq
        obtain ⟨j, hj, rfl, hno, hbq⟩ := hrel
        have hzq := hbq.size
        by_cases hltj : j < k
        · obtain ⟨b, off, rfl, hbl, hbl2, x0, x1, hx⟩ := HS.out.at hbq hlt
          obtain ⟨b', off', hA', _, _, y0, y1, hy⟩ := HS.out.at (k := j) hbq (by omega)
          obtain ⟨rfl, rfl⟩ : b = b' ∧ off = off' := by simpa using hA'
          have hgd := spGuard
          have heq := fun W => spEq_run (S k).x (S k).y (S j).x (S j).y W
          rw [dup_eq] at heq
          have HBQ := Lib.hid hbq
          have hS0 := Lib.hid hS
          clear hA' hx hy hbq hS
          generalize hd : decide ((S j).x = (S k).x ∧ (S j).y = (S k).y) = d at heq
          have HD := Lib.hid hd
          clear hd
          cases d
          · have HN : Hid (∀ i, i < j + 1 → decide ((S i).x = (S k).x ∧ (S i).y = (S k).y) = false) := fun i hi => by
              rcases Nat.lt_or_ge i j with h1 | h1
              · exact hno i h1
              · obtain rfl : i = j := by omega
                exact HD.out
            go_wp2_with fail
            refine wp_region_later (by kernel_rfl) (by kernel_rfl) (fun hlx => ?_)
            repeat (go_big_quiet_step (fail))
            refine wpQuiet_nil ?_
            clear hlx
            intro w3 hbw3
            obtain ⟨hzw3, hcw3, hfw3⟩ := bfacts hbw3; (try simp at hzw3 hcw3 hfw3); (try (have : w.heap.size < w3.heap.size := by omega)); (try (have : w.heap.size + 1 < w3.heap.size := by omega)); (try (have : w.heap.size + 1 + 1 < w3.heap.size := by omega)); (try (have : w.heap.size + 1 + 1 + 1 < w3.heap.size := by omega))
            go_wp2
            go_roundw
            case rel => exact ⟨j + 1, by omega, by go_num, HN, HBQ.out.trans (hbw3.mono hzq)⟩
            case measure => simp [intOf]; omega
          · have HN : Hid (false = meshB S n T m) := by
              show _ = _
              rw [HV.out, distB, allUpto_not (k := k) ?_ n hlt]
              · rfl
              · rw [Bool.not_eq_false', dupB, hasP_true]
                exact ⟨j, hltj, HD.out⟩
            go_wp2_with fail
            refine wp_region_later (by kernel_rfl) (by kernel_rfl) (fun hlx => ?_)
            repeat (go_big_quiet_step (fail))
            refine wpQuiet_nil ?_
            clear hlx
            intro w3 hbw3
            obtain ⟨hzw3, hcw3, hfw3⟩ := bfacts hbw3; (try simp at hzw3 hcw3 hfw3); (try (have : w.heap.size < w3.heap.size := by omega)); (try (have : w.heap.size + 1 < w3.heap.size := by omega)); (try (have : w.heap.size + 1 + 1 < w3.heap.size := by omega)); (try (have : w.heap.size + 1 + 1 + 1 < w3.heap.size := by omega))
            go_wp2
            go_ret
            exact ⟨ret_bool HN.out, HBQ.out.trans (hbw3.mono hzq)⟩
        · obtain rfl : j = k := by omega
          have HN : Hid (allUpto (fun i => !dupB S i) (j + 1) = true) := allUpto_hit hall (by rw [Bool.not_eq_true', dupB, hasP_false]; exact hno)
          have HBQ := Lib.hid hbq
          clear hbq
          go_wp2
          go_roundw
          case rel => exact ⟨j + 1, by omega, by go_num, HN, HBQ.out⟩
          case measure => simp [intOf]; omega
    · obtain rfl : k = n := by omega
      have HDS : Hid (distB S k = true) := hall
      clear hS hall hbr
      go_wp2
      go_loopw [7] (fun v wr => ∃ i : Nat, i ≤ m ∧ v = .int .i64 i ∧ Hid (allUpto (triOk S k T) i = true) ∧ Below w.heap.size w wr) (fun v _ => m - (intOf v).toNat)
      case atStart => exact ⟨0, Nat.zero_le _, rfl, rfl, HBR.out⟩
      case round =>
        clear HBR hzr
        rename World => wz
        obtain ⟨wr, rfl⟩ : ∃ wr : World, wr = wz := ⟨_, rfl⟩
        obtain ⟨i, hi, rfl, hok, hbr⟩ := hrel
        have hzr := hbr.size
        by_cases hlti : i < m
        · obtain ⟨b2, off2, rfl, hbl2, hbl3, t0, t1, t2⟩ := HS2.out.at hbr hlti
          have HT := Lib.hid (fun (x : Later wr) => l15One_any A k c S (T i) x.w (HS.out.below (Later.old x (B := w.heap.size) hbr (by omega))) hn HSP.out)
          have HBR := Lib.hid hbr
          rcases Bool.eq_false_or_eq_true (trB S k (T i)) with htr | htr
          rotate_left
          · rw [htr] at HT
            have HN : Hid (false = meshB S k T m) := by show _ = _; rw [HV.out, allUpto_not (k := i) (by rw [triOk, htr]; rfl) m hlti, Bool.and_false]
            clear htr hbr
            go_wp2_with fail
            refine wp_region_later (by kernel_rfl) (by kernel_rfl) (fun hlx => ?_)
            repeat (go_big_quiet_step ((go_at_call 124; with_reducible exact Later.call (HT.out _))))
            refine wpQuiet_nil ?_
            clear hlx
            intro w3 hbw3
            obtain ⟨hzw3, hcw3, hfw3⟩ := bfacts hbw3; (try simp at hzw3 hcw3 hfw3); (try (have : w.heap.size < w3.heap.size := by omega)); (try (have : w.heap.size + 1 < w3.heap.size := by omega)); (try (have : w.heap.size + 1 + 1 < w3.heap.size := by omega)); (try (have : w.heap.size + 1 + 1 + 1 < w3.heap.size := by omega))
            go_wp2
            go_ret
            exact ⟨ret_bool HN.out, HBR.out.trans (hbw3.mono hzr)⟩
          rw [htr] at HT
          have HTR := Lib.hid htr
          clear htr
          rcases Nat.eq_zero_or_pos i with hi0 | hpos
          · obtain rfl : i = 0 := hi0
            simp only [Nat.zero_mul, Nat.add_zero] at t0 t1 t2
            go_wp2_with fail
            refine wp_region_later (by kernel_rfl) (by kernel_rfl) (fun hlx => ?_)
            repeat (go_big_quiet_step ((go_at_call 124; with_reducible exact Later.call (HT.out _))))
            refine wpQuiet_nil ?_
            clear hlx
            intro w3 hbw3
            obtain ⟨hzw3, hcw3, hfw3⟩ := bfacts hbw3; (try simp at hzw3 hcw3 hfw3); (try (have : w.heap.size < w3.heap.size := by omega)); (try (have : w.heap.size + 1 < w3.heap.size := by omega)); (try (have : w.heap.size + 1 + 1 < w3.heap.size := by omega)); (try (have : w.heap.size + 1 + 1 + 1 < w3.heap.size := by omega))
            clear t0 t1 t2 hbr
            have hbr := HBR.out
            have HW3 : Hid (Below w.heap.size w w3) := Lib.hid (by repeat' (first | (with_reducible exact Below.refl _ _) | (with_reducible assumption) | (with_reducible refine Below.alloc ?_ ?_ _) | (with_reducible refine Below.drew ?_) | (with_reducible refine Below.setCell ?_ ?_ _) | (with_reducible refine Below.stepB (by assumption) ?_ ?_) | go_size))
            have HBI := Lib.hid (trB_idx HTR.out)
            clear hcw3 hfw3
            go_wp2
            go_loopw [8] (fun v wq => ∃ j : Nat, j ≤ 0 ∧ v = .int .i64 j ∧ Hid (allUpto (apartP S T (0)) j = true) ∧ Below w.heap.size w wq) (fun v _ => 0 - (intOf v).toNat)
            case atStart => exact ⟨0, Nat.zero_le _, rfl, rfl, HW3.out⟩
            case round =>
              rename World => wz
              obtain ⟨wq, rfl⟩ : ∃ wq : World, wq = wz := ⟨_, rfl⟩
              obtain ⟨j, hj, rfl, hap, hbq⟩ := hrel
              have hzq := hbq.size
              obtain ⟨b', off', hA', _, hbl4, t0, t1, t2⟩ := HS2.out.at (k := 0) hbq hlti
              (try simp only [Nat.zero_mul, Nat.add_zero] at t0 t1 t2)
              obtain ⟨rfl, rfl⟩ : b2 = b' ∧ off2 = off' := by simpa using hA'
              clear hA'
              by_cases hltj : j < 0
              · (try exact absurd hltj (by omega))
                all_goals
                  obtain ⟨b', off', hA', _, hbl5, u0, u1, u2⟩ := HS2.out.at (k := j) hbq (by omega)
                  obtain ⟨rfl, rfl⟩ : b2 = b' ∧ off2 = off' := by simpa using hA'
                  have htj : trB S k (T j) = true := by
                    have := allUpto_lt hok j hltj
                    simp only [triOk, Bool.and_eq_true] at this
                    exact this.1
                  have HP1 := Lib.hid (fun (x : Later wq) => l15Apart_any A k c S (T (0)) (T j) x.w (HS.out.below (Later.old x (B := w.heap.size) hbq (by omega))) hn HSP.out HBI.out (trB_idx htj))
                  have HP2 := Lib.hid (fun (x : Later wq) => l15Apart_any A k c S (T j) (T (0)) x.w (HS.out.below (Later.old x (B := w.heap.size) hbq (by omega))) hn HSP.out (trB_idx htj) HBI.out)
                  have HE : Hid (apartP S T (0) j = (partsB S (T (0)) (T j) || partsB S (T j) (T (0)))) := rfl
                  generalize partsB S (T (0)) (T j) = c1 at HP1 HE
                  generalize partsB S (T j) (T (0)) = cc2 at HP2 HE
                  have HBQ := Lib.hid hbq
                  clear hA' htj hbq
                  cases c1
                  · cases cc2
                    · have HN : Hid (false = meshB S k T m) := by
                        show _ = _
                        rw [HV.out, allUpto_not (k := 0) (by rw [triOk, apartB, allUpto_not (k := j) (by rw [HE.out]; rfl) _ hltj]; simp) m hlti, Bool.and_false]
                      clear hap
                      go_wp2_with fail
                      refine wp_region_later (by kernel_rfl) (by kernel_rfl) (fun hlx => ?_)
                      repeat (go_big_quiet_step ((first | (go_at_call 126; with_reducible exact Later.call (HP1.out _)) | (go_at_call 126; with_reducible exact Later.call (HP2.out _)))))
                      refine wpQuiet_nil ?_
                      clear hlx
                      intro w5 hbw5
                      obtain ⟨hzw5, hcw5, hfw5⟩ := bfacts hbw5; (try simp at hzw5 hcw5 hfw5); (try (have : w.heap.size < w5.heap.size := by omega)); (try (have : w.heap.size + 1 < w5.heap.size := by omega)); (try (have : w.heap.size + 1 + 1 < w5.heap.size := by omega)); (try (have : w.heap.size + 1 + 1 + 1 < w5.heap.size := by omega))
                      go_wp2
                      go_ret
                      exact ⟨ret_bool HN.out, HBQ.out.trans (hbw5.mono hzq)⟩
                    · have HN : Hid (allUpto (apartP S T (0)) (j + 1) = true) := allUpto_hit hap (by rw [HE.out]; rfl)
                      clear hap
                      go_wp2_with fail
                      refine wp_region_later (by kernel_rfl) (by kernel_rfl) (fun hlx => ?_)
                      repeat (go_big_quiet_step ((first | (go_at_call 126; with_reducible exact Later.call (HP1.out _)) | (go_at_call 126; with_reducible exact Later.call (HP2.out _)))))
                      refine wpQuiet_nil ?_
                      clear hlx
                      intro w5 hbw5
                      obtain ⟨hzw5, hcw5, hfw5⟩ := bfacts hbw5; (try simp at hzw5 hcw5 hfw5); (try (have : w.heap.size < w5.heap.size := by omega)); (try (have : w.heap.size + 1 < w5.heap.size := by omega)); (try (have : w.heap.size + 1 + 1 < w5.heap.size := by omega)); (try (have : w.heap.size + 1 + 1 + 1 < w5.heap.size := by omega))
                      go_wp2
                      go_roundw
                      case rel => exact ⟨j + 1, by omega, by go_num, HN, HBQ.out.trans (hbw5.mono hzq)⟩
                      case measure => simp [intOf]; omega
                  · have HN : Hid (allUpto (apartP S T (0)) (j + 1) = true) := allUpto_hit hap (by rw [HE.out]; rfl)
                    clear hap
                    go_wp2_with fail
                    refine wp_region_later (by kernel_rfl) (by kernel_rfl) (fun hlx => ?_)
                    repeat (go_big_quiet_step ((go_at_call 126; with_reducible exact Later.call (HP1.out _))))
                    refine wpQuiet_nil ?_
                    clear hlx
                    intro w5 hbw5
                    obtain ⟨hzw5, hcw5, hfw5⟩ := bfacts hbw5; (try simp at hzw5 hcw5 hfw5); (try (have : w.heap.size < w5.heap.size := by omega)); (try (have : w.heap.size + 1 < w5.heap.size := by omega)); (try (have : w.heap.size + 1 + 1 < w5.heap.size := by omega)); (try (have : w.heap.size + 1 + 1 + 1 < w5.heap.size := by omega))
                    go_wp2
                    go_roundw
                    case rel => exact ⟨j + 1, by omega, by go_num, HN, HBQ.out.trans (hbw5.mono hzq)⟩
                    case measure => simp [intOf]; omega
              · obtain rfl : j = 0 := by omega
                have HEM := Lib.hid (fun W (hb : Below w.heap.size w W) => l15Empty_any A k c S (T (0)) W (HS.out.below hb) hn HSP.out HBI.out)
                have HE : Hid (triOk S k T (0) = emptyB S k (T (0))) := by show _ = _; rw [triOk, HTR.out, show (decide (0 = 0) || lessT (T (0 - 1)) (T 0)) = true from rfl, apartB, hap]; simp
                generalize emptyB S k (T (0)) = ee at HEM HE
                have HBQ := Lib.hid hbq
                clear hap
                cases ee
                · have HN : Hid (false = meshB S k T m) := by show _ = _; rw [HV.out, allUpto_not (k := 0) HE.out m hlti, Bool.and_false]
                  go_wp2_with (go_at_call 127; refine (HEM.out _ (by repeat' (first | (with_reducible exact Below.refl _ _) | (with_reducible assumption) | (with_reducible refine Below.alloc ?_ ?_ _) | (with_reducible refine Below.drew ?_) | (with_reducible refine Below.setCell ?_ ?_ _) | (with_reducible refine Below.stepB (by assumption) ?_ ?_) | go_size))).mono ?_; rintro e w6 ⟨rfl, hbw6⟩; obtain ⟨hzw6, hcw6, hfw6⟩ := bfacts hbw6; (try simp at hzw6 hcw6 hfw6); (try (have : w.heap.size < w6.heap.size := by omega)); (try (have : w.heap.size + 1 < w6.heap.size := by omega)); (try (have : w.heap.size + 1 + 1 < w6.heap.size := by omega)); (try (have : w.heap.size + 1 + 1 + 1 < w6.heap.size := by omega)))
                  go_ret
                  exact ⟨ret_bool HN.out, by repeat' (first | (with_reducible exact Below.refl _ _) | (with_reducible assumption) | (with_reducible refine Below.alloc ?_ ?_ _) | (with_reducible refine Below.drew ?_) | (with_reducible refine Below.setCell ?_ ?_ _) | (with_reducible refine Below.stepB (by assumption) ?_ ?_) | go_size)⟩
                · have HN : Hid (allUpto (triOk S k T) (0 + 1) = true) := allUpto_hit hok HE.out
                  go_wp2_with (go_at_call 127; refine (HEM.out _ (by repeat' (first | (with_reducible exact Below.refl _ _) | (with_reducible assumption) | (with_reducible refine Below.alloc ?_ ?_ _) | (with_reducible refine Below.drew ?_) | (with_reducible refine Below.setCell ?_ ?_ _) | (with_reducible refine Below.stepB (by assumption) ?_ ?_) | go_size))).mono ?_; rintro e w6 ⟨rfl, hbw6⟩; obtain ⟨hzw6, hcw6, hfw6⟩ := bfacts hbw6; (try simp at hzw6 hcw6 hfw6); (try (have : w.heap.size < w6.heap.size := by omega)); (try (have : w.heap.size + 1 < w6.heap.size := by omega)); (try (have : w.heap.size + 1 + 1 < w6.heap.size := by omega)); (try (have : w.heap.size + 1 + 1 + 1 < w6.heap.size := by omega)))
                  go_roundw
                  case rel => exact ⟨0 + 1, by omega, by go_num, HN, by repeat' (first | (with_reducible exact Below.refl _ _) | (with_reducible assumption) | (with_reducible refine Below.alloc ?_ ?_ _) | (with_reducible refine Below.drew ?_) | (with_reducible refine Below.setCell ?_ ?_ _) | (with_reducible refine Below.stepB (by assumption) ?_ ?_) | go_size)⟩
                  case measure => simp [intOf]; omega
          · obtain ⟨q, rfl⟩ : ∃ q, i = q + 1 := ⟨i - 1, by omega⟩
            obtain ⟨b', off', hA', _, hbl4, s0, s1, s2⟩ := HS2.out.at (k := q) hbr (by omega)
            obtain ⟨rfl, rfl⟩ : b2 = b' ∧ off2 = off' := by simpa using hA'
            have HCM := Lib.hid (fun (x : Later wr) => l15Less_any (T q) (T (q + 1)) x.w)
            generalize hls : lessT (T q) (T (q + 1)) = ls at HCM
            have HLS := Lib.hid hls
            have w1' : IntKind.i64.wrap (((q + 1 : Nat) : Int) - 1) = (q : Int) := by rw [IntKind.wrap_i64]; omega
            clear hls hA'
            cases ls
            · have HN : Hid (false = meshB S k T m) := by show _ = _; rw [HV.out, allUpto_not (k := q + 1) (by rw [triOk, Nat.add_sub_cancel, HLS.out]; simp) m hlti, Bool.and_false]
              go_wp2_with fail
              refine wp_region_later (by kernel_rfl) (by kernel_rfl) (fun hlx => ?_)
              repeat (go_big_quiet_step ((first | (go_at_call 124; with_reducible exact Later.call (HT.out _)) | (go_at_call 125; with_reducible exact Later.call (HCM.out _)))))
              refine wpQuiet_nil ?_
              clear hlx
              intro w3 hbw3
              obtain ⟨hzw3, hcw3, hfw3⟩ := bfacts hbw3; (try simp at hzw3 hcw3 hfw3); (try (have : w.heap.size < w3.heap.size := by omega)); (try (have : w.heap.size + 1 < w3.heap.size := by omega)); (try (have : w.heap.size + 1 + 1 < w3.heap.size := by omega)); (try (have : w.heap.size + 1 + 1 + 1 < w3.heap.size := by omega))
              clear w1'
              go_wp2
              go_ret
              exact ⟨ret_bool HN.out, by repeat' (first | (with_reducible exact Below.refl _ _) | (with_reducible assumption) | (with_reducible refine Below.alloc ?_ ?_ _) | (with_reducible refine Below.drew ?_) | (with_reducible refine Below.setCell ?_ ?_ _) | (with_reducible refine Below.stepB (by assumption) ?_ ?_) | go_size)⟩
            · go_wp2_with fail
              refine wp_region_later (by kernel_rfl) (by kernel_rfl) (fun hlx => ?_)
              repeat (go_big_quiet_step ((first | (go_at_call 124; with_reducible exact Later.call (HT.out _)) | (go_at_call 125; with_reducible exact Later.call (HCM.out _)))))
              refine wpQuiet_nil ?_
              clear hlx
              intro w3 hbw3
              obtain ⟨hzw3, hcw3, hfw3⟩ := bfacts hbw3; (try simp at hzw3 hcw3 hfw3); (try (have : w.heap.size < w3.heap.size := by omega)); (try (have : w.heap.size + 1 < w3.heap.size := by omega)); (try (have : w.heap.size + 1 + 1 < w3.heap.size := by omega)); (try (have : w.heap.size + 1 + 1 + 1 < w3.heap.size := by omega))
              clear w1' t0 t1 t2 s0 s1 s2
              have HW3 : Hid (Below w.heap.size w w3) := Lib.hid (by repeat' (first | (with_reducible exact Below.refl _ _) | (with_reducible assumption) | (with_reducible refine Below.alloc ?_ ?_ _) | (with_reducible refine Below.drew ?_) | (with_reducible refine Below.setCell ?_ ?_ _) | (with_reducible refine Below.stepB (by assumption) ?_ ?_) | go_size))
              have HBI := Lib.hid (trB_idx HTR.out)
              clear hcw3 hfw3
              go_wp2
              go_loopw [8] (fun v wq => ∃ j : Nat, j ≤ (q + 1) ∧ v = .int .i64 j ∧ Hid (allUpto (apartP S T ((q + 1))) j = true) ∧ Below w.heap.size w wq) (fun v _ => (q + 1) - (intOf v).toNat)
              case atStart => exact ⟨0, Nat.zero_le _, rfl, rfl, HW3.out⟩
              case round =>
                rename World => wz
                obtain ⟨wq, rfl⟩ : ∃ wq : World, wq = wz := ⟨_, rfl⟩
                obtain ⟨j, hj, rfl, hap, hbq⟩ := hrel
                have hzq := hbq.size
                obtain ⟨b', off', hA', _, hbl4, t0, t1, t2⟩ := HS2.out.at (k := (q + 1)) hbq hlti
                (try simp only [Nat.zero_mul, Nat.add_zero] at t0 t1 t2)
                obtain ⟨rfl, rfl⟩ : b2 = b' ∧ off2 = off' := by simpa using hA'
                clear hA'
                by_cases hltj : j < (q + 1)
                · (try exact absurd hltj (by omega))
                  all_goals
                    obtain ⟨b', off', hA', _, hbl5, u0, u1, u2⟩ := HS2.out.at (k := j) hbq (by omega)
                    obtain ⟨rfl, rfl⟩ : b2 = b' ∧ off2 = off' := by simpa using hA'
                    have htj : trB S k (T j) = true := by
                      have := allUpto_lt hok j hltj
                      simp only [triOk, Bool.and_eq_true] at this
                      exact this.1
                    have HP1 := Lib.hid (fun (x : Later wq) => l15Apart_any A k c S (T ((q + 1))) (T j) x.w (HS.out.below (Later.old x (B := w.heap.size) hbq (by omega))) hn HSP.out HBI.out (trB_idx htj))
                    have HP2 := Lib.hid (fun (x : Later wq) => l15Apart_any A k c S (T j) (T ((q + 1))) x.w (HS.out.below (Later.old x (B := w.heap.size) hbq (by omega))) hn HSP.out (trB_idx htj) HBI.out)
                    have HE : Hid (apartP S T ((q + 1)) j = (partsB S (T ((q + 1))) (T j) || partsB S (T j) (T ((q + 1))))) := rfl
                    generalize partsB S (T ((q + 1))) (T j) = c1 at HP1 HE
                    generalize partsB S (T j) (T ((q + 1))) = cc2 at HP2 HE
                    have HBQ := Lib.hid hbq
                    clear hA' htj hbq
                    cases c1
                    · cases cc2
                      · have HN : Hid (false = meshB S k T m) := by
                          show _ = _
                          rw [HV.out, allUpto_not (k := (q + 1)) (by rw [triOk, apartB, allUpto_not (k := j) (by rw [HE.out]; rfl) _ hltj]; simp) m hlti, Bool.and_false]
                        clear hap
                        go_wp2_with fail
                        refine wp_region_later (by kernel_rfl) (by kernel_rfl) (fun hlx => ?_)
                        repeat (go_big_quiet_step ((first | (go_at_call 126; with_reducible exact Later.call (HP1.out _)) | (go_at_call 126; with_reducible exact Later.call (HP2.out _)))))
                        refine wpQuiet_nil ?_
                        clear hlx
                        intro w5 hbw5
                        obtain ⟨hzw5, hcw5, hfw5⟩ := bfacts hbw5; (try simp at hzw5 hcw5 hfw5); (try (have : w.heap.size < w5.heap.size := by omega)); (try (have : w.heap.size + 1 < w5.heap.size := by omega)); (try (have : w.heap.size + 1 + 1 < w5.heap.size := by omega)); (try (have : w.heap.size + 1 + 1 + 1 < w5.heap.size := by omega))
                        go_wp2
                        go_ret
                        exact ⟨ret_bool HN.out, HBQ.out.trans (hbw5.mono hzq)⟩
                      · have HN : Hid (allUpto (apartP S T ((q + 1))) (j + 1) = true) := allUpto_hit hap (by rw [HE.out]; rfl)
                        clear hap
                        go_wp2_with fail
                        refine wp_region_later (by kernel_rfl) (by kernel_rfl) (fun hlx => ?_)
                        repeat (go_big_quiet_step ((first | (go_at_call 126; with_reducible exact Later.call (HP1.out _)) | (go_at_call 126; with_reducible exact Later.call (HP2.out _)))))
                        refine wpQuiet_nil ?_
                        clear hlx
                        intro w5 hbw5
                        obtain ⟨hzw5, hcw5, hfw5⟩ := bfacts hbw5; (try simp at hzw5 hcw5 hfw5); (try (have : w.heap.size < w5.heap.size := by omega)); (try (have : w.heap.size + 1 < w5.heap.size := by omega)); (try (have : w.heap.size + 1 + 1 < w5.heap.size := by omega)); (try (have : w.heap.size + 1 + 1 + 1 < w5.heap.size := by omega))
                        go_wp2
                        go_roundw
                        case rel => exact ⟨j + 1, by omega, by go_num, HN, HBQ.out.trans (hbw5.mono hzq)⟩
                        case measure => simp [intOf]; omega
                    · have HN : Hid (allUpto (apartP S T ((q + 1))) (j + 1) = true) := allUpto_hit hap (by rw [HE.out]; rfl)
                      clear hap
                      go_wp2_with fail
                      refine wp_region_later (by kernel_rfl) (by kernel_rfl) (fun hlx => ?_)
                      repeat (go_big_quiet_step ((go_at_call 126; with_reducible exact Later.call (HP1.out _))))
                      refine wpQuiet_nil ?_
                      clear hlx
                      intro w5 hbw5
                      obtain ⟨hzw5, hcw5, hfw5⟩ := bfacts hbw5; (try simp at hzw5 hcw5 hfw5); (try (have : w.heap.size < w5.heap.size := by omega)); (try (have : w.heap.size + 1 < w5.heap.size := by omega)); (try (have : w.heap.size + 1 + 1 < w5.heap.size := by omega)); (try (have : w.heap.size + 1 + 1 + 1 < w5.heap.size := by omega))
                      go_wp2
                      go_roundw
                      case rel => exact ⟨j + 1, by omega, by go_num, HN, HBQ.out.trans (hbw5.mono hzq)⟩
                      case measure => simp [intOf]; omega
                · obtain rfl : j = (q + 1) := by omega
                  have HEM := Lib.hid (fun W (hb : Below w.heap.size w W) => l15Empty_any A k c S (T ((q + 1))) W (HS.out.below hb) hn HSP.out HBI.out)
                  have HE : Hid (triOk S k T ((q + 1)) = emptyB S k (T ((q + 1)))) := by show _ = _; rw [triOk, HTR.out, show (decide (q + 1 = 0) || lessT (T (q + 1 - 1)) (T (q + 1))) = true by rw [Nat.add_sub_cancel, HLS.out]; simp, apartB, hap]; simp
                  generalize emptyB S k (T ((q + 1))) = ee at HEM HE
                  have HBQ := Lib.hid hbq
                  clear hap
                  cases ee
                  · have HN : Hid (false = meshB S k T m) := by show _ = _; rw [HV.out, allUpto_not (k := (q + 1)) HE.out m hlti, Bool.and_false]
                    go_wp2_with (go_at_call 127; refine (HEM.out _ (by repeat' (first | (with_reducible exact Below.refl _ _) | (with_reducible assumption) | (with_reducible refine Below.alloc ?_ ?_ _) | (with_reducible refine Below.drew ?_) | (with_reducible refine Below.setCell ?_ ?_ _) | (with_reducible refine Below.stepB (by assumption) ?_ ?_) | go_size))).mono ?_; rintro e w6 ⟨rfl, hbw6⟩; obtain ⟨hzw6, hcw6, hfw6⟩ := bfacts hbw6; (try simp at hzw6 hcw6 hfw6); (try (have : w.heap.size < w6.heap.size := by omega)); (try (have : w.heap.size + 1 < w6.heap.size := by omega)); (try (have : w.heap.size + 1 + 1 < w6.heap.size := by omega)); (try (have : w.heap.size + 1 + 1 + 1 < w6.heap.size := by omega)))
                    go_ret
                    exact ⟨ret_bool HN.out, by repeat' (first | (with_reducible exact Below.refl _ _) | (with_reducible assumption) | (with_reducible refine Below.alloc ?_ ?_ _) | (with_reducible refine Below.drew ?_) | (with_reducible refine Below.setCell ?_ ?_ _) | (with_reducible refine Below.stepB (by assumption) ?_ ?_) | go_size)⟩
                  · have HN : Hid (allUpto (triOk S k T) ((q + 1) + 1) = true) := allUpto_hit hok HE.out
                    go_wp2_with (go_at_call 127; refine (HEM.out _ (by repeat' (first | (with_reducible exact Below.refl _ _) | (with_reducible assumption) | (with_reducible refine Below.alloc ?_ ?_ _) | (with_reducible refine Below.drew ?_) | (with_reducible refine Below.setCell ?_ ?_ _) | (with_reducible refine Below.stepB (by assumption) ?_ ?_) | go_size))).mono ?_; rintro e w6 ⟨rfl, hbw6⟩; obtain ⟨hzw6, hcw6, hfw6⟩ := bfacts hbw6; (try simp at hzw6 hcw6 hfw6); (try (have : w.heap.size < w6.heap.size := by omega)); (try (have : w.heap.size + 1 < w6.heap.size := by omega)); (try (have : w.heap.size + 1 + 1 < w6.heap.size := by omega)); (try (have : w.heap.size + 1 + 1 + 1 < w6.heap.size := by omega)))
                    go_roundw
                    case rel => exact ⟨(q + 1) + 1, by omega, by go_num, HN, by repeat' (first | (with_reducible exact Below.refl _ _) | (with_reducible assumption) | (with_reducible refine Below.alloc ?_ ?_ _) | (with_reducible refine Below.drew ?_) | (with_reducible refine Below.setCell ?_ ?_ _) | (with_reducible refine Below.stepB (by assumption) ?_ ?_) | go_size)⟩
                    case measure => simp [intOf]; omega
        · obtain rfl : i = m := by omega
          have HN : Hid (true = meshB S k T i) := by show _ = _; rw [HV.out, HDS.out, hok]; rfl
          clear hok
          go_wp2
          go_ret
          exact ⟨ret_bool HN.out, hbr⟩
theorem IsMesh_any (A : Option Addr) (n c : Nat) (S : Nat → SP) (A2 : Option Addr) (m c2 : Nat) (T : Nat → Nat → Int) (w : World) (hS : SlSP w A n S) (hS2 : SlT w A2 m T) (hn : n ≤ 1048576) (hm : m ≤ 1048576) (hc : n ≤ c) (hc2 : m ≤ c2) :
    Calls Try.prog 21 #[.slice A n c, .slice A2 m c2] w fun e w' => e = .returned (.bool (meshB S n T m)) ∧ Below w.heap.size w w' := by
  by_cases hq : inB n 3 8 = true ∧ spotsB S n = true ∧ inB m 1 12 = true
  · exact IsMesh_yes A n c S A2 m c2 T w hS hS2 hn hm hc hc2 hq.1 hq.2.1 hq.2.2
  have HV : Hid (meshB S n T m = ((spotsB S n && (inB n 3 8 && inB m 1 12)) && (distB S n && allUpto (triOk S n T) m))) := rfl
  have ha := Lib.hid (fun W (hb : Below w.heap.size w W) => AreSpots_any A n c S W (hS.below hb) hn)
  generalize spotsB S n = q2 at hq HV ha
  clear hS hS2
  cases q2
  · rcases Bool.eq_false_or_eq_true (inB n 3 8) with h1 | h1 <;> rcases Bool.eq_false_or_eq_true (inB m 1 12) with h3 | h3
    all_goals
      have HN : Hid (false = meshB S n T m) := by show _ = _; rw [HV.out, h1, h3]; rfl
      clear hq
      go_enter Try.func21, Try.ntmps21
      go_wp2_with (first | (go_at_call 79; refine (inside_any _ _ _ _).mono ?_; rintro e w' ⟨rfl, rfl⟩) | (go_at_call 80; refine (ha.out _ (by repeat' (first | (with_reducible exact Below.refl _ _) | (with_reducible assumption) | (with_reducible refine Below.alloc ?_ ?_ _) | (with_reducible refine Below.drew ?_) | (with_reducible refine Below.setCell ?_ ?_ _) | (with_reducible refine Below.stepB (by assumption) ?_ ?_) | go_size))).mono ?_; rintro e w1 ⟨rfl, hbw1⟩; obtain ⟨hzw1, hcw1, hfw1⟩ := bfacts hbw1; (try simp at hzw1 hcw1 hfw1); (try (have : w.heap.size < w1.heap.size := by omega)); (try (have : w.heap.size + 1 < w1.heap.size := by omega)); (try (have : w.heap.size + 1 + 1 < w1.heap.size := by omega)); (try (have : w.heap.size + 1 + 1 + 1 < w1.heap.size := by omega))))
      go_ret
      exact ⟨ret_bool HN.out, by repeat' (first | (with_reducible exact Below.refl _ _) | (with_reducible assumption) | (with_reducible refine Below.alloc ?_ ?_ _) | (with_reducible refine Below.drew ?_) | (with_reducible refine Below.setCell ?_ ?_ _) | (with_reducible refine Below.stepB (by assumption) ?_ ?_) | go_size)⟩
  · rcases Bool.eq_false_or_eq_true (inB n 3 8) with h1 | h1
    · rcases Bool.eq_false_or_eq_true (inB m 1 12) with h3 | h3
      · exact absurd ⟨h1, rfl, h3⟩ hq
      · skip
        have HN : Hid (false = meshB S n T m) := by show _ = _; rw [HV.out, h1, h3]; rfl
        clear hq
        go_enter Try.func21, Try.ntmps21
        go_wp2_with (first | (go_at_call 79; refine (inside_any _ _ _ _).mono ?_; rintro e w' ⟨rfl, rfl⟩) | (go_at_call 80; refine (ha.out _ (by repeat' (first | (with_reducible exact Below.refl _ _) | (with_reducible assumption) | (with_reducible refine Below.alloc ?_ ?_ _) | (with_reducible refine Below.drew ?_) | (with_reducible refine Below.setCell ?_ ?_ _) | (with_reducible refine Below.stepB (by assumption) ?_ ?_) | go_size))).mono ?_; rintro e w1 ⟨rfl, hbw1⟩; obtain ⟨hzw1, hcw1, hfw1⟩ := bfacts hbw1; (try simp at hzw1 hcw1 hfw1); (try (have : w.heap.size < w1.heap.size := by omega)); (try (have : w.heap.size + 1 < w1.heap.size := by omega)); (try (have : w.heap.size + 1 + 1 < w1.heap.size := by omega)); (try (have : w.heap.size + 1 + 1 + 1 < w1.heap.size := by omega))))
        go_ret
        exact ⟨ret_bool HN.out, by repeat' (first | (with_reducible exact Below.refl _ _) | (with_reducible assumption) | (with_reducible refine Below.alloc ?_ ?_ _) | (with_reducible refine Below.drew ?_) | (with_reducible refine Below.setCell ?_ ?_ _) | (with_reducible refine Below.stepB (by assumption) ?_ ?_) | go_size)⟩
    · rcases Bool.eq_false_or_eq_true (inB m 1 12) with h3 | h3
      all_goals
        have HN : Hid (false = meshB S n T m) := by show _ = _; rw [HV.out, h1, h3]; rfl
        clear hq
        go_enter Try.func21, Try.ntmps21
        go_wp2_with (first | (go_at_call 79; refine (inside_any _ _ _ _).mono ?_; rintro e w' ⟨rfl, rfl⟩) | (go_at_call 80; refine (ha.out _ (by repeat' (first | (with_reducible exact Below.refl _ _) | (with_reducible assumption) | (with_reducible refine Below.alloc ?_ ?_ _) | (with_reducible refine Below.drew ?_) | (with_reducible refine Below.setCell ?_ ?_ _) | (with_reducible refine Below.stepB (by assumption) ?_ ?_) | go_size))).mono ?_; rintro e w1 ⟨rfl, hbw1⟩; obtain ⟨hzw1, hcw1, hfw1⟩ := bfacts hbw1; (try simp at hzw1 hcw1 hfw1); (try (have : w.heap.size < w1.heap.size := by omega)); (try (have : w.heap.size + 1 < w1.heap.size := by omega)); (try (have : w.heap.size + 1 + 1 < w1.heap.size := by omega)); (try (have : w.heap.size + 1 + 1 + 1 < w1.heap.size := by omega))))
        go_ret
        exact ⟨ret_bool HN.out, by repeat' (first | (with_reducible exact Below.refl _ _) | (with_reducible assumption) | (with_reducible refine Below.alloc ?_ ?_ _) | (with_reducible refine Below.drew ?_) | (with_reducible refine Below.setCell ?_ ?_ _) | (with_reducible refine Below.stepB (by assumption) ?_ ?_) | go_size)⟩
theorem l15Good_any (A : Option Addr) (n c : Nat) (S : Nat → SP) (A2 : Option Addr) (m c2 : Nat) (T : Nat → Nat → Int) (w : World) (hS : SlSP w A n S) (hS2 : SlT w A2 m T) (hn : n ≤ 1048576) (hm : m ≤ 1048576) :
    Calls Try.prog 88 #[.slice A n c, .slice A2 m c2] w fun e w' => e = .returned (.bool (meshB S n T m)) ∧ Below w.heap.size w w' := by
  by_cases hq : inB n 3 8 = true ∧ spotsB S n = true ∧ inB m 1 12 = true
  · exact l15Good_yes A n c S A2 m c2 T w hS hS2 hn hm hq.1 hq.2.1 hq.2.2
  have HV : Hid (meshB S n T m = ((spotsB S n && (inB n 3 8 && inB m 1 12)) && (distB S n && allUpto (triOk S n T) m))) := rfl
  have ha := Lib.hid (fun W (hb : Below w.heap.size w W) => l2Spots_any A n c S W (hS.below hb) hn)
  generalize spotsB S n = q2 at hq HV ha
  clear hS hS2
  cases q2
  · rcases Bool.eq_false_or_eq_true (inB n 3 8) with h1 | h1 <;> rcases Bool.eq_false_or_eq_true (inB m 1 12) with h3 | h3
    all_goals
      have HN : Hid (false = meshB S n T m) := by show _ = _; rw [HV.out, h1, h3]; rfl
      clear hq
      go_enter Try.func88, Try.ntmps88
      go_wp2_with (first | (go_at_call 92; refine (l1In_any _ _ _ _).mono ?_; rintro e w' ⟨rfl, rfl⟩) | (go_at_call 123; refine (ha.out _ (by repeat' (first | (with_reducible exact Below.refl _ _) | (with_reducible assumption) | (with_reducible refine Below.alloc ?_ ?_ _) | (with_reducible refine Below.drew ?_) | (with_reducible refine Below.setCell ?_ ?_ _) | (with_reducible refine Below.stepB (by assumption) ?_ ?_) | go_size))).mono ?_; rintro e w1 ⟨rfl, hbw1⟩; obtain ⟨hzw1, hcw1, hfw1⟩ := bfacts hbw1; (try simp at hzw1 hcw1 hfw1); (try (have : w.heap.size < w1.heap.size := by omega)); (try (have : w.heap.size + 1 < w1.heap.size := by omega)); (try (have : w.heap.size + 1 + 1 < w1.heap.size := by omega)); (try (have : w.heap.size + 1 + 1 + 1 < w1.heap.size := by omega))))
      go_ret
      exact ⟨ret_bool HN.out, by repeat' (first | (with_reducible exact Below.refl _ _) | (with_reducible assumption) | (with_reducible refine Below.alloc ?_ ?_ _) | (with_reducible refine Below.drew ?_) | (with_reducible refine Below.setCell ?_ ?_ _) | (with_reducible refine Below.stepB (by assumption) ?_ ?_) | go_size)⟩
  · rcases Bool.eq_false_or_eq_true (inB n 3 8) with h1 | h1
    · rcases Bool.eq_false_or_eq_true (inB m 1 12) with h3 | h3
      · exact absurd ⟨h1, rfl, h3⟩ hq
      · skip
        have HN : Hid (false = meshB S n T m) := by show _ = _; rw [HV.out, h1, h3]; rfl
        clear hq
        go_enter Try.func88, Try.ntmps88
        go_wp2_with (first | (go_at_call 92; refine (l1In_any _ _ _ _).mono ?_; rintro e w' ⟨rfl, rfl⟩) | (go_at_call 123; refine (ha.out _ (by repeat' (first | (with_reducible exact Below.refl _ _) | (with_reducible assumption) | (with_reducible refine Below.alloc ?_ ?_ _) | (with_reducible refine Below.drew ?_) | (with_reducible refine Below.setCell ?_ ?_ _) | (with_reducible refine Below.stepB (by assumption) ?_ ?_) | go_size))).mono ?_; rintro e w1 ⟨rfl, hbw1⟩; obtain ⟨hzw1, hcw1, hfw1⟩ := bfacts hbw1; (try simp at hzw1 hcw1 hfw1); (try (have : w.heap.size < w1.heap.size := by omega)); (try (have : w.heap.size + 1 < w1.heap.size := by omega)); (try (have : w.heap.size + 1 + 1 < w1.heap.size := by omega)); (try (have : w.heap.size + 1 + 1 + 1 < w1.heap.size := by omega))))
        go_ret
        exact ⟨ret_bool HN.out, by repeat' (first | (with_reducible exact Below.refl _ _) | (with_reducible assumption) | (with_reducible refine Below.alloc ?_ ?_ _) | (with_reducible refine Below.drew ?_) | (with_reducible refine Below.setCell ?_ ?_ _) | (with_reducible refine Below.stepB (by assumption) ?_ ?_) | go_size)⟩
    · rcases Bool.eq_false_or_eq_true (inB m 1 12) with h3 | h3
      all_goals
        have HN : Hid (false = meshB S n T m) := by show _ = _; rw [HV.out, h1, h3]; rfl
        clear hq
        go_enter Try.func88, Try.ntmps88
        go_wp2_with (first | (go_at_call 92; refine (l1In_any _ _ _ _).mono ?_; rintro e w' ⟨rfl, rfl⟩) | (go_at_call 123; refine (ha.out _ (by repeat' (first | (with_reducible exact Below.refl _ _) | (with_reducible assumption) | (with_reducible refine Below.alloc ?_ ?_ _) | (with_reducible refine Below.drew ?_) | (with_reducible refine Below.setCell ?_ ?_ _) | (with_reducible refine Below.stepB (by assumption) ?_ ?_) | go_size))).mono ?_; rintro e w1 ⟨rfl, hbw1⟩; obtain ⟨hzw1, hcw1, hfw1⟩ := bfacts hbw1; (try simp at hzw1 hcw1 hfw1); (try (have : w.heap.size < w1.heap.size := by omega)); (try (have : w.heap.size + 1 < w1.heap.size := by omega)); (try (have : w.heap.size + 1 + 1 < w1.heap.size := by omega)); (try (have : w.heap.size + 1 + 1 + 1 < w1.heap.size := by omega))))
        go_ret
        exact ⟨ret_bool HN.out, by repeat' (first | (with_reducible exact Below.refl _ _) | (with_reducible assumption) | (with_reducible refine Below.alloc ?_ ?_ _) | (with_reducible refine Below.drew ?_) | (with_reducible refine Below.setCell ?_ ?_ _) | (with_reducible refine Below.stepB (by assumption) ?_ ?_) | go_size)⟩
theorem specIsMesh_any (A : Option Addr) (n c : Nat) (S : Nat → SP) (A2 : Option Addr) (m c2 : Nat) (T : Nat → Nat → Int) (w : World) (hS : SlSP w A n S) (hS2 : SlT w A2 m T) (hn : n ≤ 1048576) (hm : m ≤ 1048576) :
    Calls Try.prog 22 #[.slice A n c, .slice A2 m c2] w fun e w' => e = .returned (.bool (meshB S n T m)) ∧ Below w.heap.size w w' := by
  go_enter Try.func22, Try.ntmps22
  go_wp2_with fail
  refine (l15Good_any A n c S A2 m c2 T _ hS hS2 hn hm).mono ?_
  rintro e w1 ⟨rfl, hbw1⟩
  obtain ⟨hzw1, hcw1, hfw1⟩ := bfacts hbw1; (try simp at hzw1 hcw1 hfw1); (try (have : w.heap.size < w1.heap.size := by omega)); (try (have : w.heap.size + 1 < w1.heap.size := by omega)); (try (have : w.heap.size + 1 + 1 < w1.heap.size := by omega)); (try (have : w.heap.size + 1 + 1 + 1 < w1.heap.size := by omega))
  go_wp2
  go_ret
  exact ⟨rfl, hbw1⟩
end Go.Proofs.Ytfflbkmncnaffaa
