/- The law on circles, over the contracts. -/
import Derived.Test.YtfflbkmncnaffaaMcQ
import Derived.Test.YtfflbkmncnaffaaMcD
import Derived.Test.YtfflbkmncnaffaaHelpQ
import Derived.Test.YtfflbkmncnaffaaMeshJ
import Derived.Test.YtfflbkmncnaffaaCircle
import Derived.Deep.CutBlock
import Derived.Deep.DeepCutAuto
namespace Go.Proofs.Ytfflbkmncnaffaa
open Go.RowKit
set_option maxRecDepth 100000 in
set_option maxHeartbeats 16000000 in
theorem law_FnCircles (n c : Nat) (A : Option Addr) (B : Nat → Int) (w : World) (hR : ∀ i, 0 ≤ B i ∧ B i ≤ 255) (hS : Sl w 1 A n (fun i _ => .int .u8 (B i))) : Calls Try.prog 5 #[.slice A n c] w
    fun e w' => e = .returned (.bool true) ∧ Below w.heap.size w w' := by
  by_cases hn : n ≤ 65536
  · have HS := Lib.hid hS
    have HR := Lib.hid hR
    clear hS hR
    have hbig : decide (65536 < (n : Int)) = false := decide_eq_false (by omega)
    go_enter Try.func5, Try.ntmps5
    go_wp2_with (go_at_call 17; refine (vBig_any A n c _).mono ?_; rintro e w' ⟨rfl, rfl⟩)
    refine (DrawIsInCircle_any n c A B _ HR.out HS.out hn).mono ?_
    rintro e w1 ⟨ax, ay, bx, b_y, cx, cy, px, py, rfl, hbw1⟩
    have HB1 := Lib.hid hbw1
    have hz1 := hbw1.size
    have h1 := fun W => IsInCircle_any ax ay bx b_y cx cy px py W
    have h2 := fun W => specInCircle_any ax ay bx b_y cx cy px py W
    have h3 := fun W => IsInCircle_any ax ay bx b_y cx cy ax ay W
    have h4 := fun W => IsInCircle_any bx b_y cx cy ax ay px py W
    have HF := Lib.hid (circ_facts (ax := ax) (ay := ay) (bx := bx) (b_y := b_y) (cx := cx) (cy := cy) (px := px) (py := py))
    generalize circOk ax ay bx b_y cx cy px py = ok at h1 h2 HF
    generalize circV ax ay bx b_y cx cy px py = ins at h1 h2 HF
    generalize circOk ax ay bx b_y cx cy ax ay = ok2 at h3 HF
    generalize circV ax ay bx b_y cx cy ax ay = in2 at h3 HF
    generalize circOk bx b_y cx cy ax ay px py = ok3 at h4 HF
    generalize circV bx b_y cx cy ax ay px py = in3 at h4 HF
    have HA1 := Lib.hid h1
    have HA2 := Lib.hid h2
    have HA3 := Lib.hid h3
    have HA4 := Lib.hid h4
    have HTA := Lib.hid ((((blk_newC (g := w1.heap.size) (t := 26) (cs := #[.int .i64 ax, .int .i64 ay]) w1 rfl).alloc (.cells #[.int .i64 bx, .int .i64 b_y] 26)).alloc (.cells #[.int .i64 cx, .int .i64 cy] 26)).alloc (.cells #[.int .i64 px, .int .i64 py] 26))
    have HTB := Lib.hid (((blk_newC (g := w1.heap.size + 1) (t := 26) (cs := #[.int .i64 bx, .int .i64 b_y]) (w1.alloc (.cells #[.int .i64 ax, .int .i64 ay] 26)) (by simp)).alloc (.cells #[.int .i64 cx, .int .i64 cy] 26)).alloc (.cells #[.int .i64 px, .int .i64 py] 26))
    have HTC := Lib.hid ((blk_newC (g := w1.heap.size + 1 + 1) (t := 26) (cs := #[.int .i64 cx, .int .i64 cy]) ((w1.alloc (.cells #[.int .i64 ax, .int .i64 ay] 26)).alloc (.cells #[.int .i64 bx, .int .i64 b_y] 26)) (by simp)).alloc (.cells #[.int .i64 px, .int .i64 py] 26))
    have HTD := Lib.hid (blk_newC (g := w1.heap.size + 1 + 1 + 1) (t := 26) (cs := #[.int .i64 px, .int .i64 py]) (((w1.alloc (.cells #[.int .i64 ax, .int .i64 ay] 26)).alloc (.cells #[.int .i64 bx, .int .i64 b_y] 26)).alloc (.cells #[.int .i64 cx, .int .i64 cy] 26)) (by simp))
    clear h1 h2 h3 h4 hbw1
    go_wp2_with fail
    refine (HA1.out _).mono ?_
    rintro e w2 ⟨rfl, hbw2⟩
    obtain ⟨hzw2, hcw2, hfw2⟩ := bfacts hbw2; (try simp at hzw2 hcw2 hfw2); (try (have : w.heap.size < w2.heap.size := by omega)); (try (have : w.heap.size + 1 < w2.heap.size := by omega)); (try (have : w.heap.size + 1 + 1 < w2.heap.size := by omega)); (try (have : w.heap.size + 1 + 1 + 1 < w2.heap.size := by omega))
    have HTAw2 := Lib.hid (HTA.out.below hbw2 HTA.out.lt)
    have HTBw2 := Lib.hid (HTB.out.below hbw2 HTB.out.lt)
    have HTCw2 := Lib.hid (HTC.out.below hbw2 HTC.out.lt)
    have HTDw2 := Lib.hid (HTD.out.below hbw2 HTD.out.lt)
    have HB2 := Lib.hid (HB1.out.trans ((show Below w1.heap.size w1 w2 from by repeat' (first | (with_reducible exact Below.refl _ _) | (with_reducible assumption) | (with_reducible refine Below.alloc ?_ ?_ _) | (with_reducible refine Below.drew ?_) | (with_reducible refine Below.setCell ?_ ?_ _) | (with_reducible refine Below.stepB (by assumption) ?_ ?_) | go_size)).mono hz1))
    have a0 : w2.cell? ⟨w1.heap.size, 0, none⟩ = some (.int .i64 ax) := HTAw2.out.cell 0
    have a1 : w2.cell? ⟨w1.heap.size, 1, none⟩ = some (.int .i64 ay) := HTAw2.out.cell 1
    have a2 : w2.cell? ⟨w1.heap.size + 1, 0, none⟩ = some (.int .i64 bx) := HTBw2.out.cell 0
    have a3 : w2.cell? ⟨w1.heap.size + 1, 1, none⟩ = some (.int .i64 b_y) := HTBw2.out.cell 1
    have a4 : w2.cell? ⟨w1.heap.size + 1 + 1, 0, none⟩ = some (.int .i64 cx) := HTCw2.out.cell 0
    have a5 : w2.cell? ⟨w1.heap.size + 1 + 1, 1, none⟩ = some (.int .i64 cy) := HTCw2.out.cell 1
    have a6 : w2.cell? ⟨w1.heap.size + 1 + 1 + 1, 0, none⟩ = some (.int .i64 px) := HTDw2.out.cell 0
    have a7 : w2.cell? ⟨w1.heap.size + 1 + 1 + 1, 1, none⟩ = some (.int .i64 py) := HTDw2.out.cell 1
    clear hcw2 hfw2 hbw2 HTA HTB HTC HTD
    go_wp2_with fail
    refine (HA2.out _).mono ?_
    rintro e w3 ⟨rfl, hbw3⟩
    obtain ⟨hzw3, hcw3, hfw3⟩ := bfacts hbw3; (try simp at hzw3 hcw3 hfw3); (try (have : w.heap.size < w3.heap.size := by omega)); (try (have : w.heap.size + 1 < w3.heap.size := by omega)); (try (have : w.heap.size + 1 + 1 < w3.heap.size := by omega)); (try (have : w.heap.size + 1 + 1 + 1 < w3.heap.size := by omega))
    have HTAw3 := Lib.hid (HTAw2.out.below hbw3 HTAw2.out.lt)
    have HTBw3 := Lib.hid (HTBw2.out.below hbw3 HTBw2.out.lt)
    have HTCw3 := Lib.hid (HTCw2.out.below hbw3 HTCw2.out.lt)
    have HTDw3 := Lib.hid (HTDw2.out.below hbw3 HTDw2.out.lt)
    have HB3 := Lib.hid (HB2.out.trans (hbw3.mono HB2.out.size))
    have hz3 := HB3.out.size
    clear a0 a1 a2 a3 a4 a5 a6 a7 hcw3 hfw3 hbw3 HTAw2 HTBw2 HTCw2 HTDw2
    go_upto_if 77 with fail
    go_cut [11, 12, 13, 14] (fun v11 v12 v13 v14 wx => Below w3.heap.size w3 wx)
    case first =>
      cases ok
      · go_wp2_with fail
        go_meet
        exact Below.refl _ _
      · obtain ⟨f1, f2, f3, f4⟩ := HF.out (by first | trivial | rfl)
        have hA3 := HA3.out
        have hA4 := HA4.out
        rw [f1, f2] at hA3
        rw [f3, f4] at hA4
        have HA5 := Lib.hid hA3
        have HA6 := Lib.hid hA4
        clear hA3 hA4 f1 f2 f3 f4 HF HA3 HA4
        have a0 : w3.cell? ⟨w1.heap.size, 0, none⟩ = some (.int .i64 ax) := HTAw3.out.cell 0
        have a1 : w3.cell? ⟨w1.heap.size, 1, none⟩ = some (.int .i64 ay) := HTAw3.out.cell 1
        have a2 : w3.cell? ⟨w1.heap.size + 1, 0, none⟩ = some (.int .i64 bx) := HTBw3.out.cell 0
        have a3 : w3.cell? ⟨w1.heap.size + 1, 1, none⟩ = some (.int .i64 b_y) := HTBw3.out.cell 1
        have a4 : w3.cell? ⟨w1.heap.size + 1 + 1, 0, none⟩ = some (.int .i64 cx) := HTCw3.out.cell 0
        have a5 : w3.cell? ⟨w1.heap.size + 1 + 1, 1, none⟩ = some (.int .i64 cy) := HTCw3.out.cell 1
        have a6 : w3.cell? ⟨w1.heap.size + 1 + 1 + 1, 0, none⟩ = some (.int .i64 px) := HTDw3.out.cell 0
        have a7 : w3.cell? ⟨w1.heap.size + 1 + 1 + 1, 1, none⟩ = some (.int .i64 py) := HTDw3.out.cell 1
        go_wp2_with fail
        refine (HA5.out _).mono ?_
        rintro e w4 ⟨rfl, hbw4⟩
        obtain ⟨hzw4, hcw4, hfw4⟩ := bfacts hbw4; (try simp at hzw4 hcw4 hfw4); (try (have : w.heap.size < w4.heap.size := by omega)); (try (have : w.heap.size + 1 < w4.heap.size := by omega)); (try (have : w.heap.size + 1 + 1 < w4.heap.size := by omega)); (try (have : w.heap.size + 1 + 1 + 1 < w4.heap.size := by omega))
        have HTAw4 := Lib.hid (HTAw3.out.below hbw4 HTAw3.out.lt)
        have HTBw4 := Lib.hid (HTBw3.out.below hbw4 HTBw3.out.lt)
        have HTCw4 := Lib.hid (HTCw3.out.below hbw4 HTCw3.out.lt)
        have HTDw4 := Lib.hid (HTDw3.out.below hbw4 HTDw3.out.lt)
        have HB4 := Lib.hid hbw4
        clear a0 a1 a2 a3 a4 a5 a6 a7 hcw4 hfw4 hbw4
        have a0 : w4.cell? ⟨w1.heap.size, 0, none⟩ = some (.int .i64 ax) := HTAw4.out.cell 0
        have a1 : w4.cell? ⟨w1.heap.size, 1, none⟩ = some (.int .i64 ay) := HTAw4.out.cell 1
        have a2 : w4.cell? ⟨w1.heap.size + 1, 0, none⟩ = some (.int .i64 bx) := HTBw4.out.cell 0
        have a3 : w4.cell? ⟨w1.heap.size + 1, 1, none⟩ = some (.int .i64 b_y) := HTBw4.out.cell 1
        have a4 : w4.cell? ⟨w1.heap.size + 1 + 1, 0, none⟩ = some (.int .i64 cx) := HTCw4.out.cell 0
        have a5 : w4.cell? ⟨w1.heap.size + 1 + 1, 1, none⟩ = some (.int .i64 cy) := HTCw4.out.cell 1
        have a6 : w4.cell? ⟨w1.heap.size + 1 + 1 + 1, 0, none⟩ = some (.int .i64 px) := HTDw4.out.cell 0
        have a7 : w4.cell? ⟨w1.heap.size + 1 + 1 + 1, 1, none⟩ = some (.int .i64 py) := HTDw4.out.cell 1
        go_wp2_with fail
        refine (HA6.out _).mono ?_
        rintro e w5 ⟨rfl, hbw5⟩
        obtain ⟨hzw5, hcw5, hfw5⟩ := bfacts hbw5; (try simp at hzw5 hcw5 hfw5); (try (have : w.heap.size < w5.heap.size := by omega)); (try (have : w.heap.size + 1 < w5.heap.size := by omega)); (try (have : w.heap.size + 1 + 1 < w5.heap.size := by omega)); (try (have : w.heap.size + 1 + 1 + 1 < w5.heap.size := by omega))
        have HB5 := Lib.hid (HB4.out.trans (hbw5.mono HB4.out.size))
        clear a0 a1 a2 a3 a4 a5 a6 a7 hcw5 hfw5 hbw5
        cases ins
        · go_wp2_with fail
          go_meet
          exact HB5.out
        · go_wp2_with fail
          go_meet
          exact HB5.out
    have HBa := Lib.hid (HB3.out.trans (hcut.mono hz3))
    clear hcut HF HA1 HA2 HA3 HA4 HTAw3 HTBw3 HTCw3 HTDw3
    as_aux_lemma =>
      have hza : w.heap.size ≤ wc.heap.size := HBa.out.size
      go_wp2_with fail
      refine (DrawBadPairs_any n c A B _ HR.out (HS.out.below HBa.out) hn).mono ?_
      rintro e w8 ⟨p, b1, c1, S, m, b2, c2, T, rfl, hp, hpc, hm, hmc, hs, ht, hbw8⟩
      have HS8 := Lib.hid hs
      have HU8 := Lib.hid ht
      have HB8 := Lib.hid (HBa.out.trans (hbw8.mono hza))
      have hz8 := HB8.out.size
      have h1 := fun W (hb : Below w8.heap.size w8 W) => BadPairs_any (some ⟨b1, 0, none⟩) p c1 S (some ⟨b2, 0, none⟩) m c2 T W (Sl.below HS8.out hb) (Sl.below HU8.out hb) (by omega) (by omega) hpc hmc
      have h2 := fun W (hb : Below w8.heap.size w8 W) => specBad_any (some ⟨b1, 0, none⟩) p c1 S (some ⟨b2, 0, none⟩) m c2 T W (Sl.below HS8.out hb) (Sl.below HU8.out hb) (by omega) (by omega)
      have HN3 := Lib.hid (fun z W (hb : Below w8.heap.size w8 W) => NeighborsOf_any (some ⟨b1, 0, none⟩) p c1 S (some ⟨b2, 0, none⟩) m c2 T z W (Sl.below HS8.out hb) (Sl.below HU8.out hb) (by omega) (by omega) hpc hmc)
      have hbf := bad_facts (S := S) (n := p) (T := T) (m := m)
      have HNL := Lib.hid (fun z => nbrO_len S p T m z)
      have hNl := badO_len S p T m
      generalize badO S p T m = NL at h1 h2 hbf hNl
      generalize meshB S p T m = mb at h1 h2
      have HNB := Lib.hid hbf
      have HA1 := Lib.hid h1
      have HA2 := Lib.hid h2
      clear h1 h2 hbw8 hs ht hbf
      go_wp2_with fail
      refine (HA1.out _ (Below.refl _ _)).mono ?_
      rintro e w9 ⟨A9, c9, rfl, OG, hbw9⟩
      obtain ⟨hzw9, hcw9, hfw9⟩ := bfacts hbw9; (try simp at hzw9 hcw9 hfw9); (try (have : w.heap.size < w9.heap.size := by omega)); (try (have : w.heap.size + 1 < w9.heap.size := by omega)); (try (have : w.heap.size + 1 + 1 < w9.heap.size := by omega)); (try (have : w.heap.size + 1 + 1 + 1 < w9.heap.size := by omega))
      go_wp2_with fail
      refine (HA2.out _ hbw9).mono ?_
      rintro e w10 ⟨A10, c10, rfl, OW, hbw10⟩
      obtain ⟨hzw10, hcw10, hfw10⟩ := bfacts hbw10; (try simp at hzw10 hcw10 hfw10); (try (have : w.heap.size < w10.heap.size := by omega)); (try (have : w.heap.size + 1 < w10.heap.size := by omega)); (try (have : w.heap.size + 1 + 1 < w10.heap.size := by omega)); (try (have : w.heap.size + 1 + 1 + 1 < w10.heap.size := by omega))
      have HOG := Lib.hid OG
      go_wp2_with fail
      refine (vPairs_same _ _ _ _ _ _ _ (OG.below hbw10).sl OW.sl hNl).mono ?_
      rintro e w11 ⟨rfl, hbw11⟩
      obtain ⟨hzw11, hcw11, hfw11⟩ := bfacts hbw11; (try simp at hzw11 hcw11 hfw11); (try (have : w.heap.size < w11.heap.size := by omega)); (try (have : w.heap.size + 1 < w11.heap.size := by omega)); (try (have : w.heap.size + 1 + 1 < w11.heap.size := by omega)); (try (have : w.heap.size + 1 + 1 + 1 < w11.heap.size := by omega))
      have HW11 := Lib.hid (show Below w8.heap.size w8 w11 from by repeat' (first | (with_reducible exact Below.refl _ _) | (with_reducible assumption) | (with_reducible refine Below.alloc ?_ ?_ _) | (with_reducible refine Below.drew ?_) | (with_reducible refine Below.setCell ?_ ?_ _) | (with_reducible refine Below.stepB (by assumption) ?_ ?_) | go_size))
      have HB11 := Lib.hid (HB8.out.trans (HW11.out.mono hz8))
      have HG11 := Lib.hid ((HOG.out.below hbw10).below hbw11)
      have hz11 := HB11.out.size
      have hz811 := HW11.out.size
      clear OG OW hbw9 hbw10 hbw11 hcw9 hcw10 hcw11 hfw9 hfw10 hfw11 hzw9 hzw10 hzw11 HA1 HA2 HOG
      go_upto_block 0 with fail
      go_cut [21, 22, 23] (fun v21 v22 v23 wx => Below w11.heap.size w11 wx)
      case first =>
        go_wp2_with fail
        go_loopw [21] (fun v21 wr => ∃ i : Nat, i ≤ NL.length ∧ v21 = .int .i64 i ∧ Below w11.heap.size w11 wr) (fun v21 _ => NL.length - (intOf v21).toNat)
        case atStart => exact ⟨0, Nat.zero_le _, rfl, Below.refl _ _⟩
        case round =>
          obtain ⟨i, hi, rfl, hbr⟩ := hrel
          have hzr := hbr.size
          have HBR := Lib.hid hbr
          by_cases hlt : i < NL.length
          · obtain ⟨b', off', rfl, hbl, hbl2, c0, c1'⟩ := SlP.at HG11.out.sl hbr hlt
            obtain ⟨hb1, hb2⟩ := HNB.out (NL.getD i (0, 0)) (by simp [List.getD, hlt])
            have hN := fun W (hb : Below w8.heap.size w8 W) => HN3.out (NL.getD i (0, 0)).1 W hb
            rw [hb1] at hN
            have hQl := HNL.out (NL.getD i (0, 0)).1
            generalize nbrO S p T m (NL.getD i (0, 0)).1 = QL at hN hb2 hQl
            have hQl2 : QL.length ≤ 1048576 := by omega
            generalize (NL.getD i (0, 0)).1 = z1 at c0 hN
            generalize (NL.getD i (0, 0)).2 = z2 at c1' hb2
            have HNC := Lib.hid hN
            have hH := fun W A' (c' : Nat) (hs : SlI W A' QL.length (fun i => QL.getD i 0)) => vHas_any A' QL.length c' QL z2 W hs hQl2 rfl
            rw [decide_eq_true hb2] at hH
            have HHA := Lib.hid hH
            have HWR := Lib.hid (HW11.out.trans (hbr.mono hz811))
            have HC0 := Lib.hid (fun W (hb : Below wr.heap.size wr W) => (hb.cell (p := ⟨b', off' + i * 2 + 1, none⟩) hbl2).trans c1')
            clear hb1 hb2 hN hQl hH hbr
            go_wp2_with fail
            refine (HNC.out _ HWR.out).mono ?_
            rintro e w12 ⟨A12, c12, rfl, OQ, hbw12⟩
            have HB12 := Lib.hid (HBR.out.trans (hbw12.mono hzr))
            have HQ12 := Lib.hid OQ
            have c12' := HC0.out _ hbw12
            have hbl12 : b' < w12.heap.size := by have := hbw12.size; omega
            clear OQ hbw12 c0 c1'
            go_wp2_with fail
            refine (HHA.out _ _ _ HQ12.out.sl).mono ?_
            rintro e w13 ⟨rfl, hbw13⟩
            have HB13 := Lib.hid (HB12.out.trans (hbw13.mono HB12.out.size))
            clear hbw13
            go_wp2
            go_roundw
            case rel => exact ⟨i + 1, by omega, by go_num, HB13.out⟩
            case measure => simp [intOf]; omega
          · obtain rfl : i = NL.length := by omega
            go_wp2_with fail
            go_meet
            exact hbr
      have HBb := Lib.hid (HB11.out.trans (hcut.mono hz11))
      clear hcut HS8 HU8 HN3 HNB HNL HG11
      as_aux_lemma =>
        have hzb : w.heap.size ≤ wc.heap.size := HBb.out.size
        go_wp2_with fail
        refine (DrawTooDeep_any n c A B _ HR.out (HS.out.below HBb.out) hn).mono ?_
        rintro e w20 ⟨p, b1, c1, S, m, b2, c2, T, d, b3, c3, L, q, b4, c4, f, rfl, hp, hpc, hm, hmc, hs, ht, hd, hl, hq, hf, hbw20⟩
        have HS20 := Lib.hid hs
        have HU20 := Lib.hid ht
        have HL20 := Lib.hid hl
        have HF20 := Lib.hid hf
        have HB20 := Lib.hid (HBb.out.trans (hbw20.mono hzb))
        have hz20 := HB20.out.size
        have h1 := fun W (hb : Below w20.heap.size w20 W) => TooDeep_any (some ⟨b1, 0, none⟩) p c1 S (some ⟨b2, 0, none⟩) m c2 T (some ⟨b3, 0, none⟩) d c3 L (some ⟨b4, 0, none⟩) q c4 f W (Sl.below HS20.out hb) (Sl.below HU20.out hb) (Sl.below HL20.out hb) (Sl.below HF20.out hb) (by omega) (by omega) (by omega) (by omega) hpc hmc
        have h2 := fun W (hb : Below w20.heap.size w20 W) => specTooDeep_any (some ⟨b1, 0, none⟩) p c1 S (some ⟨b2, 0, none⟩) m c2 T (some ⟨b3, 0, none⟩) d c3 L (some ⟨b4, 0, none⟩) q c4 f W (Sl.below HS20.out hb) (Sl.below HU20.out hb) (Sl.below HL20.out hb) (Sl.below HF20.out hb) (by omega) (by omega) (by omega) (by omega)
        have HDA := Lib.hid (fun (s : SD) W (hb : Below w20.heap.size w20 W) => show Calls Try.prog 19 #[.slice (some ⟨b1, 0, none⟩) p c1, .slice (some ⟨b2, 0, none⟩) m c2, .slice (some ⟨b3, 0, none⟩) d c3, .agg #[.int .i64 s.x, .int .i64 s.y]] W (fun e w' => e = .returned (.tuple #[.int .i64 (daN S p T m L d (ptSD s)), .int .i64 (daD S p T m L d (ptSD s)), .bool (daB S p T m L d (ptSD s))]) ∧ Below W.heap.size W w') from DepthAt_any (some ⟨b1, 0, none⟩) p c1 S (some ⟨b2, 0, none⟩) m c2 T (some ⟨b3, 0, none⟩) d c3 L (ptSD s) W (Sl.below HS20.out hb) (Sl.below HU20.out hb) (Sl.below HL20.out hb) (by omega) (by omega) (by omega) hpc hmc)
        have HDF := Lib.hid (deep_facts (S := S) (n := p) (T := T) (m := m) (L := L) (d := d) (f := f) (q := q))
        have hNl := tdO_len S p T m L d f q
        generalize tdO S p T m L d f q = NL at h1 h2 HDF hNl
        generalize tdB S p T m L d f q = ok at h1 h2 HDF
        have hNl2 : NL.length ≤ 1048576 := by omega
        have HA1 := Lib.hid h1
        have HA2 := Lib.hid h2
        clear h1 h2 hbw20 hs ht hl hf
        go_wp2_with fail
        refine (HA1.out _ (Below.refl _ _)).mono ?_
        rintro e w21 ⟨A21, c21, rfl, OG, hbw21⟩
        obtain ⟨hzw21, hcw21, hfw21⟩ := bfacts hbw21; (try simp at hzw21 hcw21 hfw21); (try (have : w.heap.size < w21.heap.size := by omega)); (try (have : w.heap.size + 1 < w21.heap.size := by omega)); (try (have : w.heap.size + 1 + 1 < w21.heap.size := by omega)); (try (have : w.heap.size + 1 + 1 + 1 < w21.heap.size := by omega))
        go_wp2_with fail
        refine (HA2.out _ hbw21).mono ?_
        rintro e w22 ⟨A22, c22, rfl, OW, hbw22⟩
        obtain ⟨hzw22, hcw22, hfw22⟩ := bfacts hbw22; (try simp at hzw22 hcw22 hfw22); (try (have : w.heap.size < w22.heap.size := by omega)); (try (have : w.heap.size + 1 < w22.heap.size := by omega)); (try (have : w.heap.size + 1 + 1 < w22.heap.size := by omega)); (try (have : w.heap.size + 1 + 1 + 1 < w22.heap.size := by omega))
        have HOG := Lib.hid OG
        go_wp2_with fail
        refine (vInts_same _ _ _ _ _ _ _ (OG.below hbw22).sl OW.sl hNl2).mono ?_
        rintro e w23 ⟨rfl, hbw23⟩
        obtain ⟨hzw23, hcw23, hfw23⟩ := bfacts hbw23; (try simp at hzw23 hcw23 hfw23); (try (have : w.heap.size < w23.heap.size := by omega)); (try (have : w.heap.size + 1 < w23.heap.size := by omega)); (try (have : w.heap.size + 1 + 1 < w23.heap.size := by omega)); (try (have : w.heap.size + 1 + 1 + 1 < w23.heap.size := by omega))
        have HW23 := Lib.hid (show Below w20.heap.size w20 w23 from by repeat' (first | (with_reducible exact Below.refl _ _) | (with_reducible assumption) | (with_reducible refine Below.alloc ?_ ?_ _) | (with_reducible refine Below.drew ?_) | (with_reducible refine Below.setCell ?_ ?_ _) | (with_reducible refine Below.stepB (by assumption) ?_ ?_) | go_size))
        have HB23 := Lib.hid (HB20.out.trans (HW23.out.mono hz20))
        have HG23 := Lib.hid ((HOG.out.below hbw22).below hbw23)
        have hz23 := HB23.out.size
        have hz2023 := HW23.out.size
        clear OG OW hbw21 hbw22 hbw23 hcw21 hcw22 hcw23 hfw21 hfw22 hfw23 hzw21 hzw22 hzw23 HA1 HA2 HOG
        go_upto_block 2 with fail
        go_cut [32, 33, 34, 35] (fun v32 v33 v34 v35 wx => Below w23.heap.size w23 wx)
        case first =>
          go_wp2_with fail
          cases ok
          · go_loopw [32] (fun v32 wr => v32 = .int .i64 0 ∧ w23 = wr) (fun _ _ => 0)
            case atStart => exact ⟨rfl, rfl⟩
            case round =>
              obtain ⟨rfl, rfl⟩ := hrel
              by_cases hm0 : 0 < q
              · go_wp2_with fail
                go_meet
                exact Below.refl _ _
              · go_wp2_with fail
                go_meet
                exact Below.refl _ _
          · have HDD := Lib.hid (HDF.out (by first | trivial | rfl))
            go_loopw [32] (fun v32 wr => ∃ i : Nat, i ≤ q ∧ v32 = .int .i64 i ∧ Below w23.heap.size w23 wr) (fun v32 _ => q - (intOf v32).toNat)
            case atStart => exact ⟨0, Nat.zero_le _, rfl, Below.refl _ _⟩
            case round =>
              obtain ⟨i, hi, rfl, hbr⟩ := hrel
              have hzr := hbr.size
              have HBR := Lib.hid hbr
              by_cases hlt : i < q
              · have HWR := Lib.hid (HW23.out.trans (hbr.mono hz2023))
                obtain ⟨b', off', e5, hbl, hbl2, x0, x1, x2, x3, x4, -⟩ := SlSD.at HF20.out HWR.out hlt
                obtain ⟨rfl, rfl⟩ : b4 = b' ∧ off' = 0 := by simpa [eq_comm] using e5
                simp only [Nat.zero_add] at x0 x1 x2 x3 x4
                obtain ⟨hiff, ⟨dn1, dn2⟩, dp, db⟩ := HDD.out i hlt
                have hA := fun W (hb : Below w20.heap.size w20 W) => HDA.out (f i) W hb
                have hH := fun W (hb : Below w23.heap.size w23 W) => vHas_any A21 NL.length c21 NL (f i).id W ((HG23.out.below hb).sl) hNl2 rfl
                have hlo : lowV (f i) = (f i).depth - (f i).doubt := rfl
                rw [hlo] at hiff
                generalize daN S p T m L d (ptSD (f i)) = num at hA hiff
                generalize daD S p T m L d (ptSD (f i)) = den at hA hiff dn1 dn2
                generalize daB S p T m L d (ptSD (f i)) = one at hA hiff
                obtain ⟨m1, m2⟩ := mul_bdE (l := (f i).depth - (f i).doubt) (v := den) (by omega) (by omega)
                obtain ⟨has, hhas⟩ : ∃ has, decide ((f i).id ∈ NL) = has := ⟨_, rfl⟩
                rw [hhas] at hH
                have HA := Lib.hid hA
                have HHA := Lib.hid hH
                have HX0 := Lib.hid (fun W (hb : Below wr.heap.size wr W) => And.intro ((hb.cell (p := ⟨b4, i * 5, none⟩) hbl2).trans x0) (And.intro ((hb.cell (p := ⟨b4, i * 5 + 3, none⟩) hbl2).trans x3) ((hb.cell (p := ⟨b4, i * 5 + 4, none⟩) hbl2).trans x4)))
                clear e5 hA hH hbr hlo
                go_wp2_with fail
                refine (HA.out _ HWR.out).mono ?_
                rintro e w24 ⟨rfl, hbw24⟩
                have HB24 := Lib.hid (HBR.out.trans (hbw24.mono hzr))
                obtain ⟨y0, y3, y4⟩ := HX0.out _ hbw24
                have hbl24 : b4 < w24.heap.size := by have := hbw24.size; omega
                have G24 := Lib.hid (fun (x : Later w24) => HHA.out x.w (Later.old x HB24.out HB24.out.size))
                clear hbw24 x0 x1 x2 x3 x4
                cases one
                · have hh : has = false := by
                    rw [← hhas]
                    exact decide_eq_false (fun h => by have := (hiff.1 h).1; cases this)
                  subst hh
                  clear hiff hhas
                  go_wp2_with fail
                  refine wp_region_later (by kernel_rfl) (by kernel_rfl) (fun hlx => ?_)
                  repeat (go_big_quiet_step ((go_at_call 28; with_reducible exact Later.call (G24.out _))))
                  refine wpQuiet_nil ?_
                  clear hlx
                  intro w25 hbw25
                  obtain ⟨hzw25, hcw25, hfw25⟩ := bfacts hbw25; (try simp at hzw25 hcw25 hfw25); (try (have : w.heap.size < w25.heap.size := by omega)); (try (have : w.heap.size + 1 < w25.heap.size := by omega)); (try (have : w.heap.size + 1 + 1 < w25.heap.size := by omega)); (try (have : w.heap.size + 1 + 1 + 1 < w25.heap.size := by omega))
                  go_wp2
                  go_roundw
                  case rel => exact ⟨i + 1, by omega, by go_num, HB24.out.trans (hbw25.mono HB24.out.size)⟩
                  case measure => simp [intOf]; omega
                · by_cases hs : ((f i).depth - (f i).doubt) * den < num
                  · have hh : has = true := by
                      rw [← hhas]
                      exact decide_eq_true (hiff.2 ⟨by first | trivial | rfl, hs⟩)
                    subst hh
                    clear hiff hhas
                    go_wp2_with fail
                    refine wp_region_later (by kernel_rfl) (by kernel_rfl) (fun hlx => ?_)
                    repeat (go_big_quiet_step ((go_at_call 28; with_reducible exact Later.call (G24.out _))))
                    refine wpQuiet_nil ?_
                    clear hlx
                    intro w25 hbw25
                    obtain ⟨hzw25, hcw25, hfw25⟩ := bfacts hbw25; (try simp at hzw25 hcw25 hfw25); (try (have : w.heap.size < w25.heap.size := by omega)); (try (have : w.heap.size + 1 < w25.heap.size := by omega)); (try (have : w.heap.size + 1 + 1 < w25.heap.size := by omega)); (try (have : w.heap.size + 1 + 1 + 1 < w25.heap.size := by omega))
                    go_wp2
                    go_roundw
                    case rel => exact ⟨i + 1, by omega, by go_num, HB24.out.trans (hbw25.mono HB24.out.size)⟩
                    case measure => simp [intOf]; omega
                  · have hh : has = false := by
                      rw [← hhas]
                      exact decide_eq_false (fun h => hs (hiff.1 h).2)
                    subst hh
                    clear hiff hhas
                    go_wp2_with fail
                    refine wp_region_later (by kernel_rfl) (by kernel_rfl) (fun hlx => ?_)
                    repeat (go_big_quiet_step ((go_at_call 28; with_reducible exact Later.call (G24.out _))))
                    refine wpQuiet_nil ?_
                    clear hlx
                    intro w25 hbw25
                    obtain ⟨hzw25, hcw25, hfw25⟩ := bfacts hbw25; (try simp at hzw25 hcw25 hfw25); (try (have : w.heap.size < w25.heap.size := by omega)); (try (have : w.heap.size + 1 < w25.heap.size := by omega)); (try (have : w.heap.size + 1 + 1 < w25.heap.size := by omega)); (try (have : w.heap.size + 1 + 1 + 1 < w25.heap.size := by omega))
                    go_wp2
                    go_roundw
                    case rel => exact ⟨i + 1, by omega, by go_num, HB24.out.trans (hbw25.mono HB24.out.size)⟩
                    case measure => simp [intOf]; omega
              · obtain rfl : i = q := by omega
                go_wp2_with fail
                go_meet
                exact hbr
        have HBc := Lib.hid (HB23.out.trans (hcut.mono hz23))
        clear hcut HS20 HU20 HL20 HF20 HDA HDF HG23
        as_aux_lemma =>
          have hzc : w.heap.size ≤ wc.heap.size := HBc.out.size
          go_wp2_with fail
          refine (DrawShoalestCorner_any n c A B _ HR.out (HS.out.below HBc.out) hn).mono ?_
          rintro e w30 ⟨p, b1, c1, S, m, b2, c2, T, d, b3, c3, L, t, rfl, hp, hpc, hm, hmc, hs, ht, hd, hl, hbw30⟩
          have HS30 := Lib.hid hs
          have HU30 := Lib.hid ht
          have HL30 := Lib.hid hl
          have HB30 := Lib.hid (HBc.out.trans (hbw30.mono hzc))
          have hz30 := HB30.out.size
          have h1 := fun W (hb : Below w30.heap.size w30 W) => Shoalest_any (some ⟨b1, 0, none⟩) p c1 S (some ⟨b2, 0, none⟩) m c2 T (some ⟨b3, 0, none⟩) d c3 L t W (Sl.below HS30.out hb) (Sl.below HU30.out hb) (Sl.below HL30.out hb) (by omega) (by omega) (by omega) hpc hmc
          have h2 := fun W (hb : Below w30.heap.size w30 W) => specShoalest_any (some ⟨b1, 0, none⟩) p c1 S (some ⟨b2, 0, none⟩) m c2 T (some ⟨b3, 0, none⟩) d c3 L t W (Sl.below HS30.out hb) (Sl.below HU30.out hb) (Sl.below HL30.out hb) (by omega) (by omega) (by omega)
          generalize shoB S p T m L d t = ok at h1 h2
          generalize shoO S p T m L d t = so at h1 h2
          have HA1 := Lib.hid h1
          have HA2 := Lib.hid h2
          clear h1 h2 hbw30 hs ht hl
          go_wp2_with fail
          refine (HA1.out _ (Below.refl _ _)).mono ?_
          rintro e w31 ⟨rfl, hbw31⟩
          obtain ⟨hzw31, hcw31, hfw31⟩ := bfacts hbw31; (try simp at hzw31 hcw31 hfw31); (try (have : w.heap.size < w31.heap.size := by omega)); (try (have : w.heap.size + 1 < w31.heap.size := by omega)); (try (have : w.heap.size + 1 + 1 < w31.heap.size := by omega)); (try (have : w.heap.size + 1 + 1 + 1 < w31.heap.size := by omega))
          go_wp2_with fail
          refine (HA2.out _ hbw31).mono ?_
          rintro e w32 ⟨rfl, hbw32⟩
          obtain ⟨hzw32, hcw32, hfw32⟩ := bfacts hbw32; (try simp at hzw32 hcw32 hfw32); (try (have : w.heap.size < w32.heap.size := by omega)); (try (have : w.heap.size + 1 < w32.heap.size := by omega)); (try (have : w.heap.size + 1 + 1 < w32.heap.size := by omega)); (try (have : w.heap.size + 1 + 1 + 1 < w32.heap.size := by omega))
          have HB32 := Lib.hid (HB30.out.trans ((show Below w30.heap.size w30 w32 from by repeat' (first | (with_reducible exact Below.refl _ _) | (with_reducible assumption) | (with_reducible refine Below.alloc ?_ ?_ _) | (with_reducible refine Below.drew ?_) | (with_reducible refine Below.setCell ?_ ?_ _) | (with_reducible refine Below.stepB (by assumption) ?_ ?_) | go_size)).mono hz30))
          clear hbw31 hbw32 hcw31 hcw32 hfw31 hfw32
          cases ok
          · go_wp2
            go_ret
            exact ⟨rfl, HB32.out⟩
          · go_wp2
            go_ret
            exact ⟨rfl, HB32.out⟩
  · have hbig : decide (65536 < (n : Int)) = true := decide_eq_true (by omega)
    clear hS hR
    go_enter Try.func5, Try.ntmps5
    go_wp2_with (go_at_call 17; refine (vBig_any A n c _).mono ?_; rintro e w' ⟨rfl, rfl⟩)
    go_ret
    exact ⟨rfl, Below.refl _ _⟩
end Go.Proofs.Ytfflbkmncnaffaa
