/- The law on near dangers, over the contracts. -/
import Derived.Test.YtclcgckledbpfaaNdP
import Derived.Test.YtclcgckledbpfaaDrawC
import Derived.Test.YtclcgckledbpfaaDangerQ
import Derived.Test.YtclcgckledbpfaaDangerL
import Derived.Test.YtclcgckledbpfaaHelpD
import Derived.Deep.CutBlock
import Derived.Deep.DeepCutAuto
namespace Go.Proofs.Ytclcgckledbpfaa
open Go.RowKit
set_option maxRecDepth 100000 in
set_option maxHeartbeats 8000000 in
theorem law_FnNearDangers (n c : Nat) (A : Option Addr) (B : Nat → Int) (w : World) (hR : ∀ i, 0 ≤ B i ∧ B i ≤ 255) (hS : Sl w 1 A n (fun i _ => .int .u8 (B i))) : Calls Try.prog 12 #[.slice A n c] w
    fun e w' => e = .returned (.bool true) ∧ Below w.heap.size w w' := by
  by_cases hn : n ≤ 65536
  · have HS := Lib.hid hS
    have HR := Lib.hid hR
    clear hS hR
    have hbig : decide (65536 < (n : Int)) = false := decide_eq_false (by omega)
    go_enter Try.func12, Try.ntmps12
    go_wp2_with (go_at_call 44; refine (rBig_any A n c _).mono ?_; rintro e w' ⟨rfl, rfl⟩)
    refine (DrawWithin_any n c A B _ HR.out HS.out hn).mono ?_
    rintro e w1 ⟨m, b1, c1, f, x, y, far, rfl, hm, hO, hbw1⟩
    have HS1 := Lib.hid (show SlDG w1 (some ⟨b1, 0, none⟩) m f from hO.sl)
    clear hO
    have HB1 := Lib.hid hbw1
    have hz1 := hbw1.size
    have hmm : m ≤ 1048576 := by omega
    have h1 := fun W (hb : Below w1.heap.size w1 W) => Within_any (some ⟨b1, 0, none⟩) m c1 f x y far W (HS1.out.below hb) hmm
    have h2 := fun W (hb : Below w1.heap.size w1 W) => specWithin_any (some ⟨b1, 0, none⟩) m c1 f x y far W (HS1.out.below hb) hmm
    have h3 := fun W (hb : Below w1.heap.size w1 W) => Within_any (some ⟨b1, 0, none⟩) m c1 f x y (wrap64 (far + 1)) W (HS1.out.below hb) hmm
    have HNF := Lib.hid (with_facts (f := f) (x := x) (y := y) (far := far) (n := m))
    have HNM := Lib.hid (fun h h' => with_more (f := f) (x := x) (y := y) (far := far) (far' := wrap64 (far + 1)) (n := m) h h' rfl)
    have hNl := withL_len f x y far m hmm
    have hMl := withL_len f x y (wrap64 (far + 1)) m hmm
    generalize withOk f x y far m = okN at h1 h2 HNF HNM
    generalize withOk f x y (wrap64 (far + 1)) m = okM at h3 HNM
    generalize withL f x y far m = NL at h1 h2 HNF HNM hNl
    generalize withL f x y (wrap64 (far + 1)) m = ML at h3 HNM hMl
    have HA1 := Lib.hid h1
    have HA2 := Lib.hid h2
    have HA3 := Lib.hid h3
    have HT1 := Lib.hid (blk_newC (g := w1.heap.size) (t := 27) (cs := #[.int .i64 x, .int .i64 y]) w1 rfl)
    clear h1 h2 h3 hbw1
    go_wp2_with fail
    refine (HA1.out _ (by repeat' (first | (with_reducible exact Below.refl _ _) | (with_reducible assumption) | (with_reducible refine Below.alloc ?_ ?_ _) | (with_reducible refine Below.drew ?_) | (with_reducible refine Below.setCell ?_ ?_ _) | (with_reducible refine Below.stepB (by assumption) ?_ ?_) | go_size))).mono ?_
    rintro e w2 ⟨A2, d2, rfl, OG, hbw2⟩
    obtain ⟨hzw2, hcw2, hfw2⟩ := bfacts hbw2; (try simp at hzw2 hcw2 hfw2); (try (have : w.heap.size < w2.heap.size := by omega)); (try (have : w.heap.size + 1 < w2.heap.size := by omega)); (try (have : w.heap.size + 1 + 1 < w2.heap.size := by omega)); (try (have : w.heap.size + 1 + 1 + 1 < w2.heap.size := by omega))
    have HT2 := Lib.hid (HT1.out.below hbw2 (by simp))
    have HB2 := Lib.hid ((show Below w1.heap.size w1 _ from by repeat' (first | (with_reducible exact Below.refl _ _) | (with_reducible assumption) | (with_reducible refine Below.alloc ?_ ?_ _) | (with_reducible refine Below.drew ?_) | (with_reducible refine Below.setCell ?_ ?_ _) | (with_reducible refine Below.stepB (by assumption) ?_ ?_) | go_size)).trans (hbw2.mono (by simp)))
    have q0 : w2.cell? ⟨w1.heap.size, 0, none⟩ = some (.int .i64 x) := HT2.out.cell 0
    have q1 : w2.cell? ⟨w1.heap.size, 1, none⟩ = some (.int .i64 y) := HT2.out.cell 1
    have ql := HT2.out.lt
    clear hcw2 hfw2
    go_wp2_with fail
    refine (HA2.out _ HB2.out).mono ?_
    rintro e w3 ⟨A3, d3, rfl, OW, hbw3⟩
    obtain ⟨hzw3, hcw3, hfw3⟩ := bfacts hbw3; (try simp at hzw3 hcw3 hfw3); (try (have : w.heap.size < w3.heap.size := by omega)); (try (have : w.heap.size + 1 < w3.heap.size := by omega)); (try (have : w.heap.size + 1 + 1 < w3.heap.size := by omega)); (try (have : w.heap.size + 1 + 1 + 1 < w3.heap.size := by omega))
    have HT3 := Lib.hid (HT2.out.below hbw3 ql)
    have HW3 := Lib.hid (HB2.out.trans (hbw3.mono (by omega)))
    have HOG := Lib.hid OG
    clear q0 q1
    go_wp2_with fail
    refine (rInts_same _ _ _ _ _ _ _ (OG.below hbw3).sl OW.sl hNl).mono ?_
    rintro e w4 ⟨rfl, hbw4⟩
    obtain ⟨hzw4, hcw4, hfw4⟩ := bfacts hbw4; (try simp at hzw4 hcw4 hfw4); (try (have : w.heap.size < w4.heap.size := by omega)); (try (have : w.heap.size + 1 < w4.heap.size := by omega)); (try (have : w.heap.size + 1 + 1 < w4.heap.size := by omega)); (try (have : w.heap.size + 1 + 1 + 1 < w4.heap.size := by omega))
    have HT4 := Lib.hid (HT3.out.below hbw4 HT3.out.lt)
    have HW4 := Lib.hid (HW3.out.trans (hbw4.mono HW3.out.size))
    have HG4 := Lib.hid ((HOG.out.below hbw3).below hbw4)
    have q0 : w4.cell? ⟨w1.heap.size, 0, none⟩ = some (.int .i64 x) := HT4.out.cell 0
    have q1 : w4.cell? ⟨w1.heap.size, 1, none⟩ = some (.int .i64 y) := HT4.out.cell 1
    have ql := HT4.out.lt
    clear OG OW hbw2 hbw3 hbw4 hcw3 hfw3 hcw4 hfw4
    go_wp2_with fail
    refine (HA3.out _ HW4.out).mono ?_
    rintro e w5 ⟨A5, d5, rfl, OM, hbw5⟩
    obtain ⟨hzw5, hcw5, hfw5⟩ := bfacts hbw5; (try simp at hzw5 hcw5 hfw5); (try (have : w.heap.size < w5.heap.size := by omega)); (try (have : w.heap.size + 1 < w5.heap.size := by omega)); (try (have : w.heap.size + 1 + 1 < w5.heap.size := by omega)); (try (have : w.heap.size + 1 + 1 + 1 < w5.heap.size := by omega))
    have HT5 := Lib.hid (HT4.out.below hbw5 ql)
    have HW5 := Lib.hid (HW4.out.trans (hbw5.mono HW4.out.size))
    have HG5 := Lib.hid (HG4.out.below hbw5)
    have HB5 := Lib.hid (HB1.out.trans (HW5.out.mono hz1))
    have hz5 := HB5.out.size
    have hz15 := HW5.out.size
    have hg5 := HT5.out.lt
    clear OM hbw5 hcw5 hfw5 q0 q1 ql
    go_upto_region 9 with fail
    go_cut [80] (fun v wx => v = .bool false ∧ w5 = wx)
    case first =>
      cases okN
      · go_wp2_with fail
        go_meet
        exact ⟨rfl, rfl⟩
      · cases okM
        · go_wp2_with fail
          go_meet
          exact ⟨rfl, rfl⟩
        · have hle := HNM.out (by first | trivial | rfl) (by first | trivial | rfl)
          have hlt : ¬ (ML.length : Int) < (NL.length : Int) := by omega
          clear hle
          go_wp2_with fail
          go_meet
          exact ⟨rfl, rfl⟩
    obtain ⟨rfl, rfl⟩ := hcut
    clear HNM HA1 HA2 HA3 hMl
    go_upto_block 0 with fail
    go_cut [12] (fun v12 wx => ∃ i9 : Int, v12 = .int .i64 i9 ∧ Below w5.heap.size w5 wx)
    case first =>
      go_wp2_with fail
      cases okN
      · go_loopw [12] (fun v12 wr => v12 = .int .i64 0 ∧ w5 = wr) (fun _ _ => 0)
        case atStart => exact ⟨rfl, rfl⟩
        case round =>
          obtain ⟨rfl, rfl⟩ := hrel
          by_cases hm0 : 0 < m
          · go_wp2_with fail
            go_meet
            exact ⟨_, rfl, Below.refl _ _⟩
          · go_wp2_with fail
            go_meet
            exact ⟨_, rfl, Below.refl _ _⟩
      · obtain ⟨hsp, hok, ⟨ff0, ff1⟩, hmem⟩ := HNF.out (by first | trivial | rfl)
        have HSQ := Lib.hid (fun i (hi : i < m) W => SquareBetween_any (f i).x (f i).y x y W (okD_spot (hok i hi)) hsp)
        have HME := Lib.hid hmem
        clear hsp hok hmem
        go_loopw [12] (fun v12 wr => ∃ i : Nat, i ≤ m ∧ v12 = .int .i64 i ∧ Below w5.heap.size w5 wr) (fun v12 _ => m - (intOf v12).toNat)
        case atStart => exact ⟨0, Nat.zero_le _, rfl, Below.refl _ _⟩
        case round =>
          obtain ⟨i, hi, rfl, hbr⟩ := hrel
          have hzr := hbr.size
          have HBR := Lib.hid hbr
          by_cases hlt : i < m
          · have hbw : Below w1.heap.size w1 wr := HW5.out.trans (hbr.mono hz15)
            obtain ⟨b', off', e5, hbl, hbl2, c0, c1, c2, c3, c4, c5, c6, -⟩ := HS1.out.at hbw hlt
            obtain ⟨rfl, rfl⟩ : b1 = b' ∧ off' = 0 := by simpa [eq_comm] using e5
            simp only [Nat.zero_add] at c0 c1 c2 c3 c4 c5 c6
            have HTr := HT5.out.below hbr hg5
            have q0 : wr.cell? ⟨w1.heap.size, 0, none⟩ = some (.int .i64 x) := HTr.cell 0
            have q1 : wr.cell? ⟨w1.heap.size, 1, none⟩ = some (.int .i64 y) := HTr.cell 1
            have ql := HTr.lt
            have HI := Lib.hid (fun W => HSQ.out i hlt W)
            have hH := fun W (hb : Below w5.heap.size w5 W) => rHas_any A2 NL.length d2 NL (f i).id W ((HG5.out.below hb).sl) hNl rfl
            have hme := HME.out i hlt
            generalize sqD (f i).x (f i).y x y = sq at HI hme
            have hde : decide ((f i).id ∈ NL) = decide (sq ≤ far * far) := decide_eq_decide.2 hme
            rw [hde] at hH
            clear hde
            clear e5 hbw HTr hme hbr
            by_cases hs : sq ≤ far * far
            · rw [decide_eq_true hs] at hH
              have HHA := Lib.hid hH
              clear hH
              go_wp2_with fail
              refine wp_region_later (by kernel_rfl) (by kernel_rfl) (fun hlx => ?_)
              repeat (go_big_quiet_step ((go_at_call 47; exact Later.call (HI.out _))))
              refine wpQuiet_nil ?_
              clear hlx
              intro w6 hbw6
              obtain ⟨hzw6, hcw6, hfw6⟩ := bfacts hbw6; (try simp at hzw6 hcw6 hfw6); (try (have : w.heap.size < w6.heap.size := by omega)); (try (have : w.heap.size + 1 < w6.heap.size := by omega)); (try (have : w.heap.size + 1 + 1 < w6.heap.size := by omega)); (try (have : w.heap.size + 1 + 1 + 1 < w6.heap.size := by omega))
              have l6 : b1 < w6.heap.size := by omega
              have HW6 := Lib.hid (HBR.out.trans (hbw6.mono hzr))
              clear hbw6
              go_wp2_with fail
              refine (HHA.out _ HW6.out).mono ?_
              rintro e w7 ⟨rfl, hbw7⟩
              have HW7 := Lib.hid (HW6.out.trans (hbw7.mono HW6.out.size))
              clear hbw7
              go_wp2
              go_roundw
              case rel => exact ⟨i + 1, by omega, by go_num, HW7.out⟩
              case measure => simp [intOf]; omega
            · rw [decide_eq_false hs] at hH
              have HHA := Lib.hid hH
              clear hH
              go_wp2_with fail
              refine wp_region_later (by kernel_rfl) (by kernel_rfl) (fun hlx => ?_)
              repeat (go_big_quiet_step ((go_at_call 47; exact Later.call (HI.out _))))
              refine wpQuiet_nil ?_
              clear hlx
              intro w6 hbw6
              obtain ⟨hzw6, hcw6, hfw6⟩ := bfacts hbw6; (try simp at hzw6 hcw6 hfw6); (try (have : w.heap.size < w6.heap.size := by omega)); (try (have : w.heap.size + 1 < w6.heap.size := by omega)); (try (have : w.heap.size + 1 + 1 < w6.heap.size := by omega)); (try (have : w.heap.size + 1 + 1 + 1 < w6.heap.size := by omega))
              have l6 : b1 < w6.heap.size := by omega
              have HW6 := Lib.hid (HBR.out.trans (hbw6.mono hzr))
              clear hbw6
              go_wp2_with fail
              refine (HHA.out _ HW6.out).mono ?_
              rintro e w7 ⟨rfl, hbw7⟩
              have HW7 := Lib.hid (HW6.out.trans (hbw7.mono HW6.out.size))
              clear hbw7
              go_wp2
              go_roundw
              case rel => exact ⟨i + 1, by omega, by go_num, HW7.out⟩
              case measure => simp [intOf]; omega
          · obtain rfl : i = m := by omega
            go_wp2_with fail
            go_meet
            exact ⟨_, rfl, hbr⟩
    obtain ⟨i9, rfl, hbc⟩ := hcut
    have HBa := Lib.hid (HB5.out.trans (hbc.mono hz5))
    clear hbc HS1 HT1 HT2 HT3 HT4 HT5 HNF HOG HG4 HG5
    as_aux_lemma =>
      have hza : w.heap.size ≤ wc.heap.size := HBa.out.size
      go_wp2_with fail
      refine (DrawClosePairs_any n c A B _ HR.out (HS.out.below HBa.out) hn).mono ?_
      rintro e w8 ⟨p, b8, c8, g, cl, rfl, hp, hcap, hO, hbw8⟩
      have HS8 := Lib.hid (show SlDG w8 (some ⟨b8, 0, none⟩) p g from hO.sl)
      clear hO
      have HB8 := Lib.hid (HBa.out.trans (hbw8.mono hza))
      have hz8 := HB8.out.size
      have hpp : p ≤ 1048576 := by omega
      have h1 := fun W (hb : Below w8.heap.size w8 W) => ClosePairsC_any (some ⟨b8, 0, none⟩) p c8 g cl W (HS8.out.below hb) hpp hcap
      have h2 := fun W (hb : Below w8.heap.size w8 W) => specClose_any (some ⟨b8, 0, none⟩) p c8 g cl W (HS8.out.below hb) hpp
      have h5 := fun W (hb : Below w8.heap.size w8 W) => AreDangers_any (some ⟨b8, 0, none⟩) p c8 g W (HS8.out.below hb) hpp
      have h6 := fun W (hb : Below w8.heap.size w8 W) => specAreDangers_any (some ⟨b8, 0, none⟩) p c8 g W (HS8.out.below hb) hpp
      have hPl := pairsL_len g cl p
      generalize pairsOk g cl p = okP at h1 h2
      generalize pairsL g cl p = PL at h1 h2 hPl
      generalize goodDAll g p = gd at h5 h6
      have HA1 := Lib.hid h1
      have HA2 := Lib.hid h2
      have HA5 := Lib.hid h5
      have HA6 := Lib.hid h6
      clear h1 h2 h5 h6 hbw8
      go_wp2_with fail
      refine (HA1.out _ (Below.refl _ _)).mono ?_
      rintro e w9 ⟨A9, c9, rfl, OG, hbw9⟩
      obtain ⟨hzw9, hcw9, hfw9⟩ := bfacts hbw9; (try simp at hzw9 hcw9 hfw9); (try (have : w.heap.size < w9.heap.size := by omega)); (try (have : w.heap.size + 1 < w9.heap.size := by omega)); (try (have : w.heap.size + 1 + 1 < w9.heap.size := by omega)); (try (have : w.heap.size + 1 + 1 + 1 < w9.heap.size := by omega))
      go_wp2_with fail
      refine (HA2.out _ hbw9).mono ?_
      rintro e w10 ⟨A10, c10, rfl, OW, hbw10⟩
      obtain ⟨hzw10, hcw10, hfw10⟩ := bfacts hbw10; (try simp at hzw10 hcw10 hfw10); (try (have : w.heap.size < w10.heap.size := by omega)); (try (have : w.heap.size + 1 < w10.heap.size := by omega)); (try (have : w.heap.size + 1 + 1 < w10.heap.size := by omega)); (try (have : w.heap.size + 1 + 1 + 1 < w10.heap.size := by omega))
      go_wp2_with fail
      refine (rTable_same _ _ _ _ _ _ _ (OG.below hbw10).sl OW.sl hPl).mono ?_
      rintro e w11 ⟨rfl, hbw11⟩
      obtain ⟨hzw11, hcw11, hfw11⟩ := bfacts hbw11; (try simp at hzw11 hcw11 hfw11); (try (have : w.heap.size < w11.heap.size := by omega)); (try (have : w.heap.size + 1 < w11.heap.size := by omega)); (try (have : w.heap.size + 1 + 1 < w11.heap.size := by omega)); (try (have : w.heap.size + 1 + 1 + 1 < w11.heap.size := by omega))
      have HW11 := Lib.hid (show Below w8.heap.size w8 w11 from by repeat' (first | (with_reducible exact Below.refl _ _) | (with_reducible assumption) | (with_reducible refine Below.alloc ?_ ?_ _) | (with_reducible refine Below.drew ?_) | (with_reducible refine Below.setCell ?_ ?_ _) | (with_reducible refine Below.stepB (by assumption) ?_ ?_) | go_size))
      have HB11 := Lib.hid (HB8.out.trans (HW11.out.mono hz8))
      have hz11 := HB11.out.size
      have hz811 := HW11.out.size
      clear OG OW hbw9 hbw10 hbw11 hcw9 hcw10 hcw11 hfw9 hfw10 hfw11 hzw9 hzw10 hzw11 HA1 HA2
      go_wp2_with fail
      refine (DrawOldDangers_any n c A B _ HR.out (HS.out.below HB11.out) hn).mono ?_
      rintro e w12 ⟨q, b12, c12, u, t, a, rfl, hq, hO, hbw12⟩
      have HS12 := Lib.hid (show SlDG w12 (some ⟨b12, 0, none⟩) q u from hO.sl)
      clear hO
      have HB12 := Lib.hid (HB11.out.trans (hbw12.mono hz11))
      have HV12 := Lib.hid (HW11.out.trans (hbw12.mono (by omega)))
      have hz12 := HB12.out.size
      have hz812 := HV12.out.size
      have hqq : q ≤ 1048576 := by omega
      have h1 := fun W (hb : Below w12.heap.size w12 W) => OldDangers_any (some ⟨b12, 0, none⟩) q c12 u t a W (HS12.out.below hb) hqq
      have h2 := fun W (hb : Below w12.heap.size w12 W) => specOld_any (some ⟨b12, 0, none⟩) q c12 u t a W (HS12.out.below hb) hqq
      have h3 := fun W (hb : Below w12.heap.size w12 W) => OldDangers_any (some ⟨b12, 0, none⟩) q c12 u (wrap64 (t + 1)) a W (HS12.out.below hb) hqq
      have HOL := Lib.hid (fun h h' => old_later (f := u) (t := t) (t' := wrap64 (t + 1)) (a := a) (n := q) h h' rfl)
      have hOl := oldL_len u t a q hqq
      have hQl := oldL_len u (wrap64 (t + 1)) a q hqq
      generalize oldOk u t a q = okO at h1 h2 HOL
      generalize oldOk u (wrap64 (t + 1)) a q = okQ at h3 HOL
      generalize oldL u t a q = OL at h1 h2 HOL hOl
      generalize oldL u (wrap64 (t + 1)) a q = QL at h3 HOL hQl
      have HA1 := Lib.hid h1
      have HA2 := Lib.hid h2
      have HA3 := Lib.hid h3
      clear h1 h2 h3 hbw12
      go_wp2_with fail
      refine (HA1.out _ (Below.refl _ _)).mono ?_
      rintro e w13 ⟨A13, c13, rfl, OG, hbw13⟩
      obtain ⟨hzw13, hcw13, hfw13⟩ := bfacts hbw13; (try simp at hzw13 hcw13 hfw13); (try (have : w.heap.size < w13.heap.size := by omega)); (try (have : w.heap.size + 1 < w13.heap.size := by omega)); (try (have : w.heap.size + 1 + 1 < w13.heap.size := by omega)); (try (have : w.heap.size + 1 + 1 + 1 < w13.heap.size := by omega))
      have HOG := Lib.hid OG
      go_wp2_with fail
      refine (HA2.out _ hbw13).mono ?_
      rintro e w14 ⟨A14, c14, rfl, OW, hbw14⟩
      obtain ⟨hzw14, hcw14, hfw14⟩ := bfacts hbw14; (try simp at hzw14 hcw14 hfw14); (try (have : w.heap.size < w14.heap.size := by omega)); (try (have : w.heap.size + 1 < w14.heap.size := by omega)); (try (have : w.heap.size + 1 + 1 < w14.heap.size := by omega)); (try (have : w.heap.size + 1 + 1 + 1 < w14.heap.size := by omega))
      go_wp2_with fail
      refine (rInts_same _ _ _ _ _ _ _ (OG.below hbw14).sl OW.sl hOl).mono ?_
      rintro e w15 ⟨rfl, hbw15⟩
      obtain ⟨hzw15, hcw15, hfw15⟩ := bfacts hbw15; (try simp at hzw15 hcw15 hfw15); (try (have : w.heap.size < w15.heap.size := by omega)); (try (have : w.heap.size + 1 < w15.heap.size := by omega)); (try (have : w.heap.size + 1 + 1 < w15.heap.size := by omega)); (try (have : w.heap.size + 1 + 1 + 1 < w15.heap.size := by omega))
      have HW15 := Lib.hid (show Below w12.heap.size w12 w15 from by repeat' (first | (with_reducible exact Below.refl _ _) | (with_reducible assumption) | (with_reducible refine Below.alloc ?_ ?_ _) | (with_reducible refine Below.drew ?_) | (with_reducible refine Below.setCell ?_ ?_ _) | (with_reducible refine Below.stepB (by assumption) ?_ ?_) | go_size))
      have HG15 := Lib.hid ((HOG.out.below hbw14).below hbw15)
      clear OG OW hbw13 hbw14 hbw15 hcw13 hcw14 hcw15 hfw13 hfw14 hfw15 hzw13 hzw14 hzw15
      go_wp2_with fail
      refine (HA3.out _ HW15.out).mono ?_
      rintro e w16 ⟨A16, c16, rfl, OQ, hbw16⟩
      obtain ⟨hzw16, hcw16, hfw16⟩ := bfacts hbw16; (try simp at hzw16 hcw16 hfw16); (try (have : w.heap.size < w16.heap.size := by omega)); (try (have : w.heap.size + 1 < w16.heap.size := by omega)); (try (have : w.heap.size + 1 + 1 < w16.heap.size := by omega)); (try (have : w.heap.size + 1 + 1 + 1 < w16.heap.size := by omega))
      have HG16 := Lib.hid (HG15.out.below hbw16)
      have HQ16 := Lib.hid OQ
      have HW16 := Lib.hid (HW15.out.trans (hbw16.mono HW15.out.size))
      have HB16 := Lib.hid (HB12.out.trans (HW16.out.mono hz12))
      have HV16 := Lib.hid (HV12.out.trans (HW16.out.mono hz812))
      have hz16 := HB16.out.size
      have hz816 := HV16.out.size
      clear OQ hbw16 hcw16 hfw16 HOG HG15 HA1 HA2 HA3
      go_upto_region 28 with fail
      go_cut [183] (fun v wx => ∃ t : Bool, v = .bool t ∧ Hid (t = true → okO = true ∧ okQ = true) ∧ w16 = wx)
      case first =>
        cases okO
        · go_wp2_with fail
          go_meet
          exact ⟨false, rfl, fun h => absurd h (by decide), rfl⟩
        · cases okQ
          · go_wp2_with fail
            go_meet
            exact ⟨false, rfl, fun h => absurd h (by decide), rfl⟩
          · go_wp2_with fail
            go_meet
            exact ⟨true, rfl, fun _ => ⟨by first | trivial | rfl, by first | trivial | rfl⟩, rfl⟩
      obtain ⟨tt, rfl, HTT, rfl⟩ := hcut
      go_upto_if 183 with fail
      go_cut [30] (fun v30 wx => Below w16.heap.size w16 wx)
      case first =>
        cases tt
        · go_wp2_with fail
          go_meet
          exact Below.refl _ _
        · obtain ⟨eO, eQ⟩ := HTT.out (by first | trivial | rfl)
          have HIN := Lib.hid (HOL.out eO eQ)
          clear eO eQ
          go_wp2_with fail
          go_loopw [30] (fun v30 wr => ∃ i : Nat, i ≤ OL.length ∧ v30 = .int .i64 i ∧ Below w16.heap.size w16 wr) (fun v30 _ => OL.length - (intOf v30).toNat)
          case atStart => exact ⟨0, Nat.zero_le _, rfl, Below.refl _ _⟩
          case round =>
            obtain ⟨i, hi, rfl, hbr⟩ := hrel
            have hzr := hbr.size
            have HBR := Lib.hid hbr
            by_cases hlt : i < OL.length
            · obtain ⟨b', off', rfl, hbl, hbl2, c0⟩ := SlI.at HG16.out.sl hbr hlt
              have hmem : OL.getD i 0 ∈ QL := HIN.out _ (by simp [List.getD, hlt])
              have hH := fun W (hb : Below w16.heap.size w16 W) => rHas_any A16 QL.length c16 QL (OL.getD i 0) W ((HQ16.out.below hb).sl) hQl rfl
              rw [decide_eq_true hmem] at hH
              have HHA := Lib.hid hH
              clear hH hmem hbr
              replace c0 : wr.cell? ⟨b', off' + i, none⟩ = some (.int .i64 (OL.getD i 0)) := c0
              generalize OL.getD i 0 = z at c0 HHA
              go_wp2_with fail
              refine (HHA.out _ HBR.out).mono ?_
              rintro e w17 ⟨rfl, hbw17⟩
              have HW17 := Lib.hid (HBR.out.trans (hbw17.mono hzr))
              clear hbw17
              go_wp2
              go_roundw
              case rel => exact ⟨i + 1, by omega, by go_num, HW17.out⟩
              case measure => simp [intOf]; omega
            · obtain rfl : i = OL.length := by omega
              go_wp2_with fail
              go_meet
              exact hbr
      have HBz := Lib.hid (HB16.out.trans (hcut.mono hz16))
      have HVz := Lib.hid (HV16.out.trans (hcut.mono hz816))
      clear hcut HOL HTT HG16 HQ16 HS12
      go_wp2_with fail
      refine (HA5.out _ HVz.out).mono ?_
      rintro e w18 ⟨rfl, hbw18⟩
      obtain ⟨hzw18, hcw18, hfw18⟩ := bfacts hbw18; (try simp at hzw18 hcw18 hfw18); (try (have : w.heap.size < w18.heap.size := by omega)); (try (have : w.heap.size + 1 < w18.heap.size := by omega)); (try (have : w.heap.size + 1 + 1 < w18.heap.size := by omega)); (try (have : w.heap.size + 1 + 1 + 1 < w18.heap.size := by omega))
      have HV18 := Lib.hid (HVz.out.trans (hbw18.mono HVz.out.size))
      have HB18 := Lib.hid (HBz.out.trans (hbw18.mono HBz.out.size))
      clear hbw18 hcw18 hfw18
      go_wp2_with fail
      refine (HA6.out _ HV18.out).mono ?_
      rintro e w19 ⟨rfl, hbw19⟩
      obtain ⟨hzw19, hcw19, hfw19⟩ := bfacts hbw19; (try simp at hzw19 hcw19 hfw19); (try (have : w.heap.size < w19.heap.size := by omega)); (try (have : w.heap.size + 1 < w19.heap.size := by omega)); (try (have : w.heap.size + 1 + 1 < w19.heap.size := by omega)); (try (have : w.heap.size + 1 + 1 + 1 < w19.heap.size := by omega))
      have HB19 := Lib.hid (HB18.out.trans (hbw19.mono HB18.out.size))
      clear hbw19 hcw19 hfw19
      cases gd
      · go_wp2
        go_ret
        exact ⟨rfl, HB19.out⟩
      · go_wp2
        go_ret
        exact ⟨rfl, HB19.out⟩
  · have hbig : decide (65536 < (n : Int)) = true := decide_eq_true (by omega)
    clear hS hR
    go_enter Try.func12, Try.ntmps12
    go_wp2_with (go_at_call 44; refine (rBig_any A n c _).mono ?_; rintro e w' ⟨rfl, rfl⟩)
    go_ret
    exact ⟨rfl, Below.refl _ _⟩
end Go.Proofs.Ytclcgckledbpfaa
