/- The law on meshes, over the contracts. -/
import Derived.Test.YtfflbkmncnaffaaMsQ
import Derived.Test.YtfflbkmncnaffaaMsC
import Derived.Test.YtfflbkmncnaffaaHelpM
import Derived.Deep.CutBlock
import Derived.Deep.DeepCutAuto
namespace Go.Proofs.Ytfflbkmncnaffaa
open Go.RowKit
set_option maxRecDepth 100000 in
set_option maxHeartbeats 16000000 in
theorem law_FnMeshes (n c : Nat) (A : Option Addr) (B : Nat → Int) (w : World) (hR : ∀ i, 0 ≤ B i ∧ B i ≤ 255) (hS : Sl w 1 A n (fun i _ => .int .u8 (B i))) : Calls Try.prog 4 #[.slice A n c] w
    fun e w' => e = .returned (.bool true) ∧ Below w.heap.size w w' := by
  by_cases hn : n ≤ 65536
  · have HS := Lib.hid hS
    have HR := Lib.hid hR
    clear hS hR
    have hbig : decide (65536 < (n : Int)) = false := decide_eq_false (by omega)
    go_enter Try.func4, Try.ntmps4
    go_wp2_with (go_at_call 17; refine (vBig_any A n c _).mono ?_; rintro e w' ⟨rfl, rfl⟩)
    refine (DrawDepthAt_any n c A B _ HR.out HS.out hn).mono ?_
    rintro e w1 ⟨p, b1, c1, S, m, b2, c2, T, d, b3, c3, L, x, y, rfl, hp, hpc, hm, hmc, hs, ht, hd, hl, hbw1⟩
    have HS1 := Lib.hid hs
    have HU1 := Lib.hid ht
    have HL1 := Lib.hid hl
    have HB1 := Lib.hid hbw1
    have hz1 := hbw1.size
    have h1 := fun W (hb : Below w1.heap.size w1 W) => DepthAt_any (some ⟨b1, 0, none⟩) p c1 S (some ⟨b2, 0, none⟩) m c2 T (some ⟨b3, 0, none⟩) d c3 L ⟨x, y⟩ W (Sl.below HS1.out hb) (Sl.below HU1.out hb) (Sl.below HL1.out hb) (by omega) (by omega) (by omega) hpc hmc
    have h2 := fun W (hb : Below w1.heap.size w1 W) => specDepthAt_any (some ⟨b1, 0, none⟩) p c1 S (some ⟨b2, 0, none⟩) m c2 T (some ⟨b3, 0, none⟩) d c3 L ⟨x, y⟩ W (Sl.below HS1.out hb) (Sl.below HU1.out hb) (Sl.below HL1.out hb) (by omega) (by omega) (by omega)
    have h3 := fun W (hb : Below w1.heap.size w1 W) => IsMesh_any (some ⟨b1, 0, none⟩) p c1 S (some ⟨b2, 0, none⟩) m c2 T W (Sl.below HS1.out hb) (Sl.below HU1.out hb) (by omega) (by omega) hpc hmc
    have h4 := fun W (hb : Below w1.heap.size w1 W) => specIsMesh_any (some ⟨b1, 0, none⟩) p c1 S (some ⟨b2, 0, none⟩) m c2 T W (Sl.below HS1.out hb) (Sl.below HU1.out hb) (by omega) (by omega)
    have h5 := fun W (hb : Below w1.heap.size w1 W) => TriangleAt_any (some ⟨b1, 0, none⟩) p c1 S (some ⟨b2, 0, none⟩) m c2 T ⟨x, y⟩ W (Sl.below HS1.out hb) (Sl.below HU1.out hb) (by omega) (by omega) hpc hmc
    have HCV := Lib.hid (fun (j k q : Nat) (hc : cornB S p T m L d j k q) W (hb : Below w1.heap.size w1 W) => show Calls Try.prog 19 #[.slice (some ⟨b1, 0, none⟩) p c1, .slice (some ⟨b2, 0, none⟩) m c2, .slice (some ⟨b3, 0, none⟩) d c3, .agg #[.int .i64 (S q).x, .int .i64 (S q).y]] W (fun e w' => e = .returned (.tuple #[.int .i64 (L q), .int .i64 1, .bool true]) ∧ Below W.heap.size W w') from by
      have h := DepthAt_any (some ⟨b1, 0, none⟩) p c1 S (some ⟨b2, 0, none⟩) m c2 T (some ⟨b3, 0, none⟩) d c3 L (S q) W (Sl.below HS1.out hb) (Sl.below HU1.out hb) (Sl.below HL1.out hb) (by omega) (by omega) (by omega) hpc hmc
      rw [hc.2.2.2.2.1, hc.2.2.2.2.2.1, hc.2.2.2.2.2.2] at h
      exact h)
    have HF := Lib.hid (at_facts (S := S) (n := p) (T := T) (m := m) (L := L) (d := d) (p := ⟨x, y⟩))
    generalize daB S p T m L d ⟨x, y⟩ = okD at h1 h2 HF
    generalize daN S p T m L d ⟨x, y⟩ = num at h1 h2 HF
    generalize daD S p T m L d ⟨x, y⟩ = den at h1 h2 HF
    generalize meshB S p T m = mb at h3 h4
    generalize tAtB S p T m ⟨x, y⟩ = tB at h5 HF
    generalize tAtO S p T m ⟨x, y⟩ = tO at h5 HF
    simp only at h1 h2 h5
    have HA1 := Lib.hid h1
    have HA2 := Lib.hid h2
    have HA3 := Lib.hid h3
    have HA4 := Lib.hid h4
    have HA5 := Lib.hid h5
    have HT1 := Lib.hid (blk_newC (g := w1.heap.size) (t := 26) (cs := #[.int .i64 x, .int .i64 y]) w1 rfl)
    clear h1 h2 h3 h4 h5 hbw1 hs ht hl
    go_wp2_with fail
    refine (HA1.out _ (by repeat' (first | (with_reducible exact Below.refl _ _) | (with_reducible assumption) | (with_reducible refine Below.alloc ?_ ?_ _) | (with_reducible refine Below.drew ?_) | (with_reducible refine Below.setCell ?_ ?_ _) | (with_reducible refine Below.stepB (by assumption) ?_ ?_) | go_size))).mono ?_
    rintro e w2 ⟨rfl, hbw2⟩
    obtain ⟨hzw2, hcw2, hfw2⟩ := bfacts hbw2; (try simp at hzw2 hcw2 hfw2); (try (have : w.heap.size < w2.heap.size := by omega)); (try (have : w.heap.size + 1 < w2.heap.size := by omega)); (try (have : w.heap.size + 1 + 1 < w2.heap.size := by omega)); (try (have : w.heap.size + 1 + 1 + 1 < w2.heap.size := by omega))
    have HT2 := Lib.hid (HT1.out.below hbw2 (by simp))
    have HB2 := Lib.hid ((show Below w1.heap.size w1 _ from by repeat' (first | (with_reducible exact Below.refl _ _) | (with_reducible assumption) | (with_reducible refine Below.alloc ?_ ?_ _) | (with_reducible refine Below.drew ?_) | (with_reducible refine Below.setCell ?_ ?_ _) | (with_reducible refine Below.stepB (by assumption) ?_ ?_) | go_size)).trans (hbw2.mono (by simp)))
    have q0 : w2.cell? ⟨w1.heap.size, 0, none⟩ = some (.int .i64 x) := HT2.out.cell 0
    have q1 : w2.cell? ⟨w1.heap.size, 1, none⟩ = some (.int .i64 y) := HT2.out.cell 1
    have ql := HT2.out.lt
    clear hcw2 hfw2 HT1
    go_wp2_with fail
    refine (HA2.out _ HB2.out).mono ?_
    rintro e w3 ⟨rfl, hbw3⟩
    obtain ⟨hzw3, hcw3, hfw3⟩ := bfacts hbw3; (try simp at hzw3 hcw3 hfw3); (try (have : w.heap.size < w3.heap.size := by omega)); (try (have : w.heap.size + 1 < w3.heap.size := by omega)); (try (have : w.heap.size + 1 + 1 < w3.heap.size := by omega)); (try (have : w.heap.size + 1 + 1 + 1 < w3.heap.size := by omega))
    have HT3 := Lib.hid (HT2.out.below hbw3 ql)
    have HB3 := Lib.hid (HB2.out.trans (hbw3.mono (by omega)))
    clear hbw2 hbw3 hcw3 hfw3 q0 q1 ql HT2
    go_wp2_with fail
    refine (HA3.out _ HB3.out).mono ?_
    rintro e w4 ⟨rfl, hbw4⟩
    obtain ⟨hzw4, hcw4, hfw4⟩ := bfacts hbw4; (try simp at hzw4 hcw4 hfw4); (try (have : w.heap.size < w4.heap.size := by omega)); (try (have : w.heap.size + 1 < w4.heap.size := by omega)); (try (have : w.heap.size + 1 + 1 < w4.heap.size := by omega)); (try (have : w.heap.size + 1 + 1 + 1 < w4.heap.size := by omega))
    have HT4 := Lib.hid (HT3.out.below hbw4 HT3.out.lt)
    have HB4 := Lib.hid (HB3.out.trans (hbw4.mono HB3.out.size))
    clear hbw4 hcw4 hfw4 HT3
    go_wp2_with fail
    refine (HA4.out _ HB4.out).mono ?_
    rintro e w5 ⟨rfl, hbw5⟩
    obtain ⟨hzw5, hcw5, hfw5⟩ := bfacts hbw5; (try simp at hzw5 hcw5 hfw5); (try (have : w.heap.size < w5.heap.size := by omega)); (try (have : w.heap.size + 1 < w5.heap.size := by omega)); (try (have : w.heap.size + 1 + 1 < w5.heap.size := by omega)); (try (have : w.heap.size + 1 + 1 + 1 < w5.heap.size := by omega))
    have HT5 := Lib.hid (HT4.out.below hbw5 HT4.out.lt)
    have HW5 := Lib.hid (HB4.out.trans (hbw5.mono HB4.out.size))
    have HB5 := Lib.hid (HB1.out.trans (HW5.out.mono hz1))
    have hz5 := HB5.out.size
    have hz15 := HW5.out.size
    clear hbw5 hcw5 hfw5 HT4 HB2 HB3 HB4 HA1 HA2 HA3 HA4
    go_upto_if 94 with fail
    go_cut [13, 14, 15, 16, 17, 18, 19, 20, 21] (fun v13 v14 v15 v16 v17 v18 v19 v20 v21 wx => Below w5.heap.size w5 wx)
    case first =>
      cases okD
      · go_wp2_with fail
        go_meet
        exact Below.refl _ _
      · obtain ⟨htB, j, htO, hj, hcn, hbd, ⟨dn1, dn2⟩, bo1, bo2⟩ := HF.out (by first | trivial | rfl)
        have HCN := Lib.hid hcn
        have HBD := Lib.hid hbd
        have HBO := Lib.hid (And.intro bo1 bo2)
        have hA5 := HA5.out
        rw [htB, htO] at hA5
        have HA6 := Lib.hid hA5
        have q0 : w5.cell? ⟨w1.heap.size, 0, none⟩ = some (.int .i64 x) := HT5.out.cell 0
        have q1 : w5.cell? ⟨w1.heap.size, 1, none⟩ = some (.int .i64 y) := HT5.out.cell 1
        have ql := HT5.out.lt
        clear htB htO hcn hbd bo1 bo2 hA5 HF HA5
        go_wp2_with fail
        refine (HA6.out _ HW5.out).mono ?_
        rintro e w6 ⟨rfl, hbw6⟩
        obtain ⟨hzw6, hcw6, hfw6⟩ := bfacts hbw6; (try simp at hzw6 hcw6 hfw6); (try (have : w.heap.size < w6.heap.size := by omega)); (try (have : w.heap.size + 1 < w6.heap.size := by omega)); (try (have : w.heap.size + 1 + 1 < w6.heap.size := by omega)); (try (have : w.heap.size + 1 + 1 + 1 < w6.heap.size := by omega))
        have HW6 := Lib.hid (HW5.out.trans (hbw6.mono hz15))
        have HV6 := Lib.hid hbw6
        have hz6 := HW6.out.size
        have hz56 := HV6.out.size
        clear hbw6 hcw6 hfw6 q0 q1 ql
        go_upto_region 10 with fail
        go_cut [113] (fun v wx => v = .bool false ∧ w6 = wx)
        case first =>
          go_wp2_with fail
          go_meet
          exact ⟨by first | rfl | (rw [decide_eq_false (by omega), decide_eq_false (by omega)]; rfl), rfl⟩
        obtain ⟨rfl, rfl⟩ := hcut
        have lo0 : loK L (T j) 0 = 20000 := rfl
        have hi0 : hiK L (T j) 0 = -1000 := rfl
        go_wp2
        go_loopw [15, 16, 17] (fun v15 v16 v17 wr => ∃ k : Nat, k ≤ 3 ∧ v17 = .int .i64 k ∧ v15 = .int .i64 (loK L (T j) k) ∧ v16 = .int .i64 (hiK L (T j) k) ∧ Below w6.heap.size w6 wr) (fun _ _ v17 _ => 3 - (intOf v17).toNat)
        case atStart => exact ⟨0, by omega, rfl, rfl, rfl, Below.refl _ _⟩
        case round =>
          clear lo0 hi0
          obtain ⟨k, hk, rfl, rfl, rfl, hbr⟩ := hrel
          have hzr := hbr.size
          have HBR := Lib.hid hbr
          by_cases hlt : k < 3
          · obtain ⟨q, hq⟩ := HCN.out k hlt
            have hbw : Below w1.heap.size w1 wr := HW6.out.trans (hbr.mono hz6)
            obtain ⟨b', off', e5, hbl, hct⟩ := (Sl.below HU1.out hbw) (show 0 < m by omega)
            obtain ⟨rfl, rfl⟩ : b2 = b' ∧ off' = 0 := by simpa [eq_comm] using e5
            have ct : wr.cell? ⟨b2, 0 + j * 3 + k, none⟩ = some (.int .i64 (T j k)) := hct j k hj hlt
            rw [hq.1, Nat.zero_add] at ct
            obtain ⟨b', off', e6, hbl3, hbl3', cl⟩ := SlI.at HL1.out hbw hq.2.2.1
            obtain ⟨rfl, rfl⟩ : b3 = b' ∧ off' = 0 := by simpa [eq_comm] using e6
            rw [Nat.zero_add] at cl
            obtain ⟨b', off', e7, hbl4, hbl4', s0, s1, -⟩ := SlSP.at HS1.out hbw hq.2.1
            obtain ⟨rfl, rfl⟩ : b1 = b' ∧ off' = 0 := by simpa [eq_comm] using e7
            simp only [Nat.zero_add] at s0 s1
            have hqd := hq.2.2.1
            have hqp := hq.2.1
            have HQ := Lib.hid hq
            have HC := Lib.hid (fun W (hb : Below w1.heap.size w1 W) => HCV.out j k q hq W hb)
            have HW := Lib.hid hbw
            have HY := Lib.hid (fun (h : L q < loK L (T j) k) => loK_yes hq.1 h)
            have HN := Lib.hid (fun (h : ¬ L q < loK L (T j) k) => loK_no hq.1 h)
            have HZ := Lib.hid (fun (h : hiK L (T j) k < L q) => hiK_yes hq.1 h)
            have HM := Lib.hid (fun (h : ¬ hiK L (T j) k < L q) => hiK_no hq.1 h)
            generalize loK L (T j) k = lo at HY HN ⊢
            generalize hiK L (T j) k = hi at HZ HM ⊢
            generalize L q = lq at cl HC HY HN HZ HM
            clear hct e5 e6 e7 hq hbw hbr
            by_cases h1 : lq < lo <;> by_cases h2 : hi < lq
            all_goals
              have HH := Lib.hid (And.intro h1 h2)
              go_wp2_with fail
              refine (HC.out _ HW.out).mono ?_
              rintro e w7 ⟨rfl, hbw7⟩
              have HB7 := Lib.hid (HBR.out.trans (hbw7.mono hzr))
              clear hbw7 h1 h2
              go_wp2
              go_roundw
              case rel => exact ⟨k + 1, by omega, by go_num, by first | rw [HY.out HH.out.1] | rw [HN.out HH.out.1], by first | rw [HZ.out HH.out.2] | rw [HM.out HH.out.2], HB7.out⟩
              case measure => simp [intOf]; omega
          · obtain rfl : k = 3 := by omega
            obtain ⟨l1, l2⟩ := HBD.out 3 (Nat.le_refl _)
            obtain ⟨m1, m2⟩ := mul_bdD l1 (v := den) (by omega)
            obtain ⟨m3, m4⟩ := mul_bdD l2 (v := den) (by omega)
            obtain ⟨o1, o2⟩ := HBO.out
            generalize loK L (T j) 3 = lo at *
            generalize hiK L (T j) 3 = hi at *
            have t1 : ¬ num < lo * den := by omega
            have t2 : ¬ hi * den < num := by omega
            clear o1 o2 l1 l2
            go_wp2_with fail
            go_meet
            exact HV6.out.trans (hbr.mono hz56)
    have HBa := Lib.hid (HB5.out.trans (hcut.mono hz5))
    clear hcut HS1 HU1 HL1 HCV HF HA5 HT5
    as_aux_lemma =>
      have hza : w.heap.size ≤ wc.heap.size := HBa.out.size
      go_wp2_with fail
      refine (DrawNeighborsOf_any n c A B _ HR.out (HS.out.below HBa.out) hn).mono ?_
      rintro e w8 ⟨p, b1, c1, S, m, b2, c2, T, t, rfl, hp, hpc, hm, hmc, hs, ht, hbw8⟩
      have HS8 := Lib.hid hs
      have HU8 := Lib.hid ht
      have HB8 := Lib.hid (HBa.out.trans (hbw8.mono hza))
      have hz8 := HB8.out.size
      have h1 := fun W (hb : Below w8.heap.size w8 W) => NeighborsOf_any (some ⟨b1, 0, none⟩) p c1 S (some ⟨b2, 0, none⟩) m c2 T t W (Sl.below HS8.out hb) (Sl.below HU8.out hb) (by omega) (by omega) hpc hmc
      have h2 := fun W (hb : Below w8.heap.size w8 W) => specNeighbors_any (some ⟨b1, 0, none⟩) p c1 S (some ⟨b2, 0, none⟩) m c2 T t W (Sl.below HS8.out hb) (Sl.below HU8.out hb) (by omega) (by omega)
      have HN3 := Lib.hid (fun z W (hb : Below w8.heap.size w8 W) => NeighborsOf_any (some ⟨b1, 0, none⟩) p c1 S (some ⟨b2, 0, none⟩) m c2 T z W (Sl.below HS8.out hb) (Sl.below HU8.out hb) (by omega) (by omega) hpc hmc)
      have hnb := nb_facts (S := S) (n := p) (T := T) (m := m) (t := t)
      have HNL := Lib.hid (fun z => nbrO_len S p T m z)
      generalize nbrO S p T m t = NL at h1 h2 hnb
      generalize nbrB S p T m t = okN at h1 h2
      obtain ⟨hn3, hnb⟩ := hnb
      have HNB := Lib.hid hnb
      have hNl : NL.length ≤ 1048576 := by omega
      have hgt : ¬ (3 : Int) < (NL.length : Int) := by omega
      have HA1 := Lib.hid h1
      have HA2 := Lib.hid h2
      clear h1 h2 hbw8 hs ht hnb
      go_wp2_with fail
      refine (HA1.out _ (Below.refl _ _)).mono ?_
      rintro e w9 ⟨A9, c9, rfl, OG, hbw9⟩
      obtain ⟨hzw9, hcw9, hfw9⟩ := bfacts hbw9; (try simp at hzw9 hcw9 hfw9); (try (have : w.heap.size < w9.heap.size := by omega)); (try (have : w.heap.size + 1 < w9.heap.size := by omega)); (try (have : w.heap.size + 1 + 1 < w9.heap.size := by omega)); (try (have : w.heap.size + 1 + 1 + 1 < w9.heap.size := by omega))
      go_wp2_with fail
      refine (HA2.out _ hbw9).mono ?_
      rintro e w10 ⟨A10, c10, rfl, OW, hbw10⟩
      obtain ⟨hzw10, hcw10, hfw10⟩ := bfacts hbw10; (try simp at hzw10 hcw10 hfw10); (try (have : w.heap.size < w10.heap.size := by omega)); (try (have : w.heap.size + 1 < w10.heap.size := by omega)); (try (have : w.heap.size + 1 + 1 < w10.heap.size := by omega)); (try (have : w.heap.size + 1 + 1 + 1 < w10.heap.size := by omega))
      have HOG := Lib.hid OG
      go_wp2_with fail
      refine (vInts_same _ _ _ _ _ _ _ (OG.below hbw10).sl OW.sl hNl).mono ?_
      rintro e w11 ⟨rfl, hbw11⟩
      obtain ⟨hzw11, hcw11, hfw11⟩ := bfacts hbw11; (try simp at hzw11 hcw11 hfw11); (try (have : w.heap.size < w11.heap.size := by omega)); (try (have : w.heap.size + 1 < w11.heap.size := by omega)); (try (have : w.heap.size + 1 + 1 < w11.heap.size := by omega)); (try (have : w.heap.size + 1 + 1 + 1 < w11.heap.size := by omega))
      have HW11 := Lib.hid (show Below w8.heap.size w8 w11 from by repeat' (first | (with_reducible exact Below.refl _ _) | (with_reducible assumption) | (with_reducible refine Below.alloc ?_ ?_ _) | (with_reducible refine Below.drew ?_) | (with_reducible refine Below.setCell ?_ ?_ _) | (with_reducible refine Below.stepB (by assumption) ?_ ?_) | go_size))
      have HB11 := Lib.hid (HB8.out.trans (HW11.out.mono hz8))
      have HG11 := Lib.hid ((HOG.out.below hbw10).below hbw11)
      have hz11 := HB11.out.size
      have hz811 := HW11.out.size
      clear OG OW hbw9 hbw10 hbw11 hcw9 hcw10 hcw11 hfw9 hfw10 hfw11 hzw9 hzw10 hzw11 HA1 HA2 HOG
      go_upto_block 2 with fail
      go_cut [29, 30, 31] (fun v29 v30 v31 wx => Below w11.heap.size w11 wx)
      case first =>
        clear hgt hn3
        go_wp2_with fail
        go_loopw [29] (fun v29 wr => ∃ i : Nat, i ≤ NL.length ∧ v29 = .int .i64 i ∧ Below w11.heap.size w11 wr) (fun v29 _ => NL.length - (intOf v29).toNat)
        case atStart => exact ⟨0, Nat.zero_le _, rfl, Below.refl _ _⟩
        case round =>
          obtain ⟨i, hi, rfl, hbr⟩ := hrel
          have hzr := hbr.size
          have HBR := Lib.hid hbr
          by_cases hlt : i < NL.length
          · obtain ⟨b', off', rfl, hbl, hbl2, c0⟩ := SlI.at HG11.out.sl hbr hlt
            obtain ⟨hb1, hb2⟩ := HNB.out (NL.getD i 0) (by simp [List.getD, hlt])
            have hN := fun W (hb : Below w8.heap.size w8 W) => HN3.out (NL.getD i 0) W hb
            rw [hb1] at hN
            have hQl := HNL.out (NL.getD i 0)
            generalize nbrO S p T m (NL.getD i 0) = QL at hN hb2 hQl
            have hQl2 : QL.length ≤ 1048576 := by omega
            replace c0 : wr.cell? ⟨b', off' + i, none⟩ = some (.int .i64 (NL.getD i 0)) := c0
            generalize NL.getD i 0 = z at c0 hN
            have HNC := Lib.hid hN
            have hH := fun W A' (c' : Nat) (hs : SlI W A' QL.length (fun i => QL.getD i 0)) => vHas_any A' QL.length c' QL t W hs hQl2 rfl
            rw [decide_eq_true hb2] at hH
            have HHA := Lib.hid hH
            have HWR := Lib.hid (HW11.out.trans (hbr.mono hz811))
            clear hb1 hb2 hN hQl hH hbr
            go_wp2_with fail
            refine (HNC.out _ HWR.out).mono ?_
            rintro e w12 ⟨A12, c12, rfl, OQ, hbw12⟩
            have HB12 := Lib.hid (HBR.out.trans (hbw12.mono hzr))
            have HQ12 := Lib.hid OQ
            clear OQ hbw12
            go_wp2_with fail
            refine (HHA.out _ _ _ HQ12.out.sl).mono ?_
            rintro e w13 ⟨rfl, hbw13⟩
            have HB13 := Lib.hid (HB12.out.trans (hbw13.mono HB12.out.size))
            clear hbw13
            go_wp2
            go_roundw
            case rel => exact ⟨i + 1, by omega, by go_num, HB13.out⟩
            case measure => simp [intOf]; omega
          · obtain rfl : i = NL.length := by omega
            go_wp2_with fail
            go_meet
            exact hbr
      have HBb := Lib.hid (HB11.out.trans (hcut.mono hz11))
      clear hcut HS8 HU8 HN3 HNB HNL HG11
      as_aux_lemma =>
        have hzb : w.heap.size ≤ wc.heap.size := HBb.out.size
        go_wp2_with fail
        refine (DrawAreaOf_any n c A B _ HR.out (HS.out.below HBb.out) hn).mono ?_
        rintro e w20 ⟨p, b1, c1, S, m, b2, c2, T, rfl, hp, hpc, hm, hmc, hs, ht, hbw20⟩
        have HS20 := Lib.hid hs
        have HU20 := Lib.hid ht
        have HB20 := Lib.hid (HBb.out.trans (hbw20.mono hzb))
        have hz20 := HB20.out.size
        have h1 := fun W (hb : Below w20.heap.size w20 W) => AreaOf_any (some ⟨b1, 0, none⟩) p c1 S (some ⟨b2, 0, none⟩) m c2 T W (Sl.below HS20.out hb) (Sl.below HU20.out hb) (by omega) (by omega) hpc hmc
        have h2 := fun W (hb : Below w20.heap.size w20 W) => specArea_any (some ⟨b1, 0, none⟩) p c1 S (some ⟨b2, 0, none⟩) m c2 T W (Sl.below HS20.out hb) (Sl.below HU20.out hb) (by omega) (by omega)
        have HAF := Lib.hid (area_facts (S := S) (n := p) (T := T) (m := m))
        generalize meshB S p T m = mb at h1 h2 HAF
        generalize areaO S p T m = ar at h1 h2 HAF
        have HA1 := Lib.hid h1
        have HA2 := Lib.hid h2
        clear h1 h2 hbw20 hs ht
        go_wp2_with fail
        refine (HA1.out _ (Below.refl _ _)).mono ?_
        rintro e w21 ⟨rfl, hbw21⟩
        obtain ⟨hzw21, hcw21, hfw21⟩ := bfacts hbw21; (try simp at hzw21 hcw21 hfw21); (try (have : w.heap.size < w21.heap.size := by omega)); (try (have : w.heap.size + 1 < w21.heap.size := by omega)); (try (have : w.heap.size + 1 + 1 < w21.heap.size := by omega)); (try (have : w.heap.size + 1 + 1 + 1 < w21.heap.size := by omega))
        go_wp2_with fail
        refine (HA2.out _ hbw21).mono ?_
        rintro e w22 ⟨rfl, hbw22⟩
        obtain ⟨hzw22, hcw22, hfw22⟩ := bfacts hbw22; (try simp at hzw22 hcw22 hfw22); (try (have : w.heap.size < w22.heap.size := by omega)); (try (have : w.heap.size + 1 < w22.heap.size := by omega)); (try (have : w.heap.size + 1 + 1 < w22.heap.size := by omega)); (try (have : w.heap.size + 1 + 1 + 1 < w22.heap.size := by omega))
        have HB22 := Lib.hid (HB20.out.trans ((show Below w20.heap.size w20 w22 from by repeat' (first | (with_reducible exact Below.refl _ _) | (with_reducible assumption) | (with_reducible refine Below.alloc ?_ ?_ _) | (with_reducible refine Below.drew ?_) | (with_reducible refine Below.setCell ?_ ?_ _) | (with_reducible refine Below.stepB (by assumption) ?_ ?_) | go_size)).mono hz20))
        have hz22 := HB22.out.size
        clear hbw21 hbw22 hcw21 hcw22 hfw21 hfw22 HA1 HA2
        go_upto_region 40 with fail
        go_cut [266] (fun v wx => v = .bool false ∧ w22 = wx)
        case first =>
          cases mb
          · go_wp2_with fail
            go_meet
            exact ⟨rfl, rfl⟩
          · have hle := HAF.out (by first | trivial | rfl)
            have hlt : ¬ ar < (m : Int) := by omega
            clear hle
            go_wp2_with fail
            go_meet
            exact ⟨rfl, rfl⟩
        obtain ⟨rfl, rfl⟩ := hcut
        clear HAF HS20 HU20
        go_wp2_with fail
        refine (DrawTriangleAt_any n c A B _ HR.out (HS.out.below HB22.out) hn).mono ?_
        rintro e w30 ⟨p, b1, c1, S, m, b2, c2, T, x, y, rfl, hp, hpc, hm, hmc, hs, ht, hbw30⟩
        have HS30 := Lib.hid hs
        have HU30 := Lib.hid ht
        have HB30 := Lib.hid (HB22.out.trans (hbw30.mono hz22))
        have hz30 := HB30.out.size
        have h1 := fun W (hb : Below w30.heap.size w30 W) => TriangleAt_any (some ⟨b1, 0, none⟩) p c1 S (some ⟨b2, 0, none⟩) m c2 T ⟨x, y⟩ W (Sl.below HS30.out hb) (Sl.below HU30.out hb) (by omega) (by omega) hpc hmc
        have h2 := fun W (hb : Below w30.heap.size w30 W) => specTriAt_any (some ⟨b1, 0, none⟩) p c1 S (some ⟨b2, 0, none⟩) m c2 T ⟨x, y⟩ W (Sl.below HS30.out hb) (Sl.below HU30.out hb) (by omega) (by omega)
        generalize tAtB S p T m ⟨x, y⟩ = tB at h1 h2
        generalize tAtO S p T m ⟨x, y⟩ = tO at h1 h2
        simp only at h1 h2
        have HA1 := Lib.hid h1
        have HA2 := Lib.hid h2
        have HT1 := Lib.hid (blk_newC (g := w30.heap.size) (t := 26) (cs := #[.int .i64 x, .int .i64 y]) w30 rfl)
        clear h1 h2 hbw30 hs ht
        go_wp2_with fail
        refine (HA1.out _ (by repeat' (first | (with_reducible exact Below.refl _ _) | (with_reducible assumption) | (with_reducible refine Below.alloc ?_ ?_ _) | (with_reducible refine Below.drew ?_) | (with_reducible refine Below.setCell ?_ ?_ _) | (with_reducible refine Below.stepB (by assumption) ?_ ?_) | go_size))).mono ?_
        rintro e w31 ⟨rfl, hbw31⟩
        obtain ⟨hzw31, hcw31, hfw31⟩ := bfacts hbw31; (try simp at hzw31 hcw31 hfw31); (try (have : w.heap.size < w31.heap.size := by omega)); (try (have : w.heap.size + 1 < w31.heap.size := by omega)); (try (have : w.heap.size + 1 + 1 < w31.heap.size := by omega)); (try (have : w.heap.size + 1 + 1 + 1 < w31.heap.size := by omega))
        have HT2 := Lib.hid (HT1.out.below hbw31 (by simp))
        have HB31 := Lib.hid ((show Below w30.heap.size w30 _ from by repeat' (first | (with_reducible exact Below.refl _ _) | (with_reducible assumption) | (with_reducible refine Below.alloc ?_ ?_ _) | (with_reducible refine Below.drew ?_) | (with_reducible refine Below.setCell ?_ ?_ _) | (with_reducible refine Below.stepB (by assumption) ?_ ?_) | go_size)).trans (hbw31.mono (by simp)))
        have q0 : w31.cell? ⟨w30.heap.size, 0, none⟩ = some (.int .i64 x) := HT2.out.cell 0
        have q1 : w31.cell? ⟨w30.heap.size, 1, none⟩ = some (.int .i64 y) := HT2.out.cell 1
        have ql := HT2.out.lt
        clear hcw31 hfw31 HT1
        go_wp2_with fail
        refine (HA2.out _ HB31.out).mono ?_
        rintro e w32 ⟨rfl, hbw32⟩
        obtain ⟨hzw32, hcw32, hfw32⟩ := bfacts hbw32; (try simp at hzw32 hcw32 hfw32); (try (have : w.heap.size < w32.heap.size := by omega)); (try (have : w.heap.size + 1 < w32.heap.size := by omega)); (try (have : w.heap.size + 1 + 1 < w32.heap.size := by omega)); (try (have : w.heap.size + 1 + 1 + 1 < w32.heap.size := by omega))
        have HB32 := Lib.hid (HB30.out.trans ((HB31.out.trans (hbw32.mono HB31.out.size)).mono hz30))
        clear hbw31 hbw32 hcw32 hfw32 q0 q1 ql
        cases tB
        · go_wp2
          go_ret
          exact ⟨rfl, HB32.out⟩
        · go_wp2
          go_ret
          exact ⟨rfl, HB32.out⟩
  · have hbig : decide (65536 < (n : Int)) = true := decide_eq_true (by omega)
    clear hS hR
    go_enter Try.func4, Try.ntmps4
    go_wp2_with (go_at_call 17; refine (vBig_any A n c _).mono ?_; rintro e w' ⟨rfl, rfl⟩)
    go_ret
    exact ⟨rfl, Below.refl _ _⟩
end Go.Proofs.Ytfflbkmncnaffaa
