/- The law on near bottoms, over the contracts. -/
import Derived.Test.YtfecepjdjikenaaNbP
import Derived.Test.YtfecepjdjikenaaNbD
import Derived.Deep.CutBlock
import Derived.Deep.DeepCutAuto
namespace Go.Proofs.Ytfecepjdjikenaa
open Go.RowKit
def lettO (s : BS) : List UInt8 := if okS s = true then lettV s else []
theorem LettersOf_any (s : BS) (w : World) : Calls Try.prog 33 #[.agg #[.int .i64 s.id, .int .i64 s.x, .int .i64 s.y, .int .i64 s.mud, .int .i64 s.sand, .int .i64 s.rock]] w fun e w' => e = .returned (.tuple #[.string ⟨(lettO s).toArray⟩, .bool (okS s)]) ∧ Below w.heap.size w w' := by
  rcases Bool.eq_false_or_eq_true (okS s) with h | h
  · rw [lettO, h]
    exact LettersOf_yes s w h
  · rw [lettO, h]
    exact LettersOf_no s w h
theorem specLetters_any (s : BS) (w : World) : Calls Try.prog 32 #[.agg #[.int .i64 s.id, .int .i64 s.x, .int .i64 s.y, .int .i64 s.mud, .int .i64 s.sand, .int .i64 s.rock]] w fun e w' => e = .returned (.tuple #[.string ⟨(lettO s).toArray⟩, .bool (okS s)]) ∧ Below w.heap.size w w' := by
  rcases Bool.eq_false_or_eq_true (okS s) with h | h
  · rw [lettO, h]
    exact specLetters_yes s w h
  · rw [lettO, h]
    exact specLetters_no s w h
set_option maxRecDepth 100000 in
set_option maxHeartbeats 4000000 in
theorem law_FnNearBottoms (n c : Nat) (A : Option Addr) (B : Nat → Int) (w : World) (hR : ∀ i, 0 ≤ B i ∧ B i ≤ 255) (hS : Sl w 1 A n (fun i _ => .int .u8 (B i))) : Calls Try.prog 13 #[.slice A n c] w
    fun e w' => e = .returned (.bool true) ∧ Below w.heap.size w w' := by
  by_cases hn : n ≤ 65536
  · have HS := Lib.hid hS
    have HR := Lib.hid hR
    clear hS hR
    have hbig : decide (65536 < (n : Int)) = false := decide_eq_false (by omega)
    go_enter Try.func13, Try.ntmps13
    go_wp2_with (go_at_call 47; refine (rBig_any A n c _).mono ?_; rintro e w' ⟨rfl, rfl⟩)
    refine (DrawNearestSample_any n c A B _ HR.out HS.out hn).mono ?_
    rintro e w1 ⟨m, b1, c1, f, x, y, rfl, hm, hO, hbw1⟩
    have HS1 := Lib.hid (show SlS w1 (some ⟨b1, 0, none⟩) m f from hO.sl)
    clear hO
    have HB1 := Lib.hid hbw1
    have hz1 := hbw1.size
    have hmm : m ≤ 1048576 := by omega
    have h1 := fun W (hb : Below w1.heap.size w1 W) => NearestSample_any (some ⟨b1, 0, none⟩) m c1 f x y W (HS1.out.below hb) hmm
    have h2 := fun W (hb : Below w1.heap.size w1 W) => specNearest_any (some ⟨b1, 0, none⟩) m c1 f x y W (HS1.out.below hb) hmm
    have HNF := Lib.hid (near_facts (f := f) (x := x) (y := y) (n := m))
    generalize nearOk f x y m = okN at h1 h2 HNF
    generalize nearId f x y m = nid at h1 h2 HNF
    have HA1 := Lib.hid h1
    have HA2 := Lib.hid h2
    have HT1 := Lib.hid (blk_newC (g := w1.heap.size) (t := 27) (cs := #[.int .i64 x, .int .i64 y]) w1 rfl)
    clear h1 h2 hbw1
    go_wp2_with fail
    refine (HA1.out _ (by repeat' (first | (with_reducible exact Below.refl _ _) | (with_reducible assumption) | (with_reducible refine Below.alloc ?_ ?_ _) | (with_reducible refine Below.drew ?_) | (with_reducible refine Below.setCell ?_ ?_ _) | (with_reducible refine Below.stepB (by assumption) ?_ ?_) | go_size))).mono ?_
    rintro e w2 ⟨rfl, hbw2⟩
    obtain ⟨hzw2, hcw2, hfw2⟩ := bfacts hbw2; (try simp at hzw2 hcw2 hfw2); (try (have : w.heap.size < w2.heap.size := by omega)); (try (have : w.heap.size + 1 < w2.heap.size := by omega)); (try (have : w.heap.size + 1 + 1 < w2.heap.size := by omega)); (try (have : w.heap.size + 1 + 1 + 1 < w2.heap.size := by omega))
    have HT2 := Lib.hid (HT1.out.below hbw2 (by simp))
    have HB2 := Lib.hid ((show Below w1.heap.size w1 _ from by repeat' (first | (with_reducible exact Below.refl _ _) | (with_reducible assumption) | (with_reducible refine Below.alloc ?_ ?_ _) | (with_reducible refine Below.drew ?_) | (with_reducible refine Below.setCell ?_ ?_ _) | (with_reducible refine Below.stepB (by assumption) ?_ ?_) | go_size)).trans (hbw2.mono (by simp)))
    have q0 : w2.cell? ⟨w1.heap.size, 0, none⟩ = some (.int .i64 x) := HT2.out.cell 0
    have q1 : w2.cell? ⟨w1.heap.size, 1, none⟩ = some (.int .i64 y) := HT2.out.cell 1
    have ql := HT2.out.lt
    clear hcw2 hfw2
    go_wp2_with fail
    refine (HA2.out _ HB2.out).mono ?_
    rintro e w3 ⟨rfl, hbw3⟩
    obtain ⟨hzw3, hcw3, hfw3⟩ := bfacts hbw3; (try simp at hzw3 hcw3 hfw3); (try (have : w.heap.size < w3.heap.size := by omega)); (try (have : w.heap.size + 1 < w3.heap.size := by omega)); (try (have : w.heap.size + 1 + 1 < w3.heap.size := by omega)); (try (have : w.heap.size + 1 + 1 + 1 < w3.heap.size := by omega))
    have HT3 := Lib.hid (HT2.out.below hbw3 ql)
    have HW3 := Lib.hid (HB2.out.trans (hbw3.mono (by omega)))
    have HB3 := Lib.hid (HB1.out.trans (HW3.out.mono hz1))
    have hz3 := HB3.out.size
    have hz13 := HW3.out.size
    have hg3 := HT3.out.lt
    clear hbw2 hbw3 hcw3 hfw3 q0 q1 ql
    go_upto_block 0 with fail
    go_cut [9] (fun v9 wx => ∃ i9 : Int, v9 = .int .i64 i9 ∧ Below w3.heap.size w3 wx)
    case first =>
      go_wp2_with fail
      cases okN
      · go_loopw [9] (fun v9 wr => v9 = .int .i64 0 ∧ w3 = wr) (fun _ _ => 0)
        case atStart => exact ⟨rfl, rfl⟩
        case round =>
          obtain ⟨rfl, rfl⟩ := hrel
          by_cases hm0 : 0 < m
          · go_wp2_with fail
            go_meet
            exact ⟨_, rfl, Below.refl _ _⟩
          · go_wp2_with fail
            go_meet
            exact ⟨_, rfl, Below.refl _ _⟩
      · obtain ⟨hsp, hok, hmin⟩ := HNF.out (by first | trivial | rfl)
        have HSQ := Lib.hid (fun i (hi : i < m) W => SquareBetween_any (f i).x (f i).y x y W (okS_spot (hok i hi)) hsp)
        have HMIN := Lib.hid hmin
        clear hsp hok hmin
        go_loopw [9] (fun v9 wr => ∃ i : Nat, i ≤ m ∧ v9 = .int .i64 i ∧ Below w3.heap.size w3 wr) (fun v9 _ => m - (intOf v9).toNat)
        case atStart => exact ⟨0, Nat.zero_le _, rfl, Below.refl _ _⟩
        case round =>
          obtain ⟨i, hi, rfl, hbr⟩ := hrel
          have hzr := hbr.size
          have HBR := Lib.hid hbr
          by_cases hlt : i < m
          · clear hbr
            go_wp2_with fail
            go_loopw [10] (fun v10 wq => ∃ k : Nat, k ≤ m ∧ v10 = .int .i64 k ∧ Below wr.heap.size wr wq) (fun v10 _ => m - (intOf v10).toNat)
            case atStart => exact ⟨0, Nat.zero_le _, rfl, Below.refl _ _⟩
            case round =>
              rename World => wq
              obtain ⟨k, hk, rfl, hbq⟩ := hrel
              have hzq := hbq.size
              by_cases hkl : k < m
              · have hb3 : Below w3.heap.size w3 wq := HBR.out.trans (hbq.mono hzr)
                have hbw : Below w1.heap.size w1 wq := HW3.out.trans (hb3.mono hz13)
                obtain ⟨b', off', e5, hbl, hbl2, d0, d1, d2, d3, d4, d5, -⟩ := HS1.out.at hbw hlt
                obtain ⟨rfl, rfl⟩ : b1 = b' ∧ off' = 0 := by simpa [eq_comm] using e5
                obtain ⟨b', off', e6, _, _, g0, g1, g2, g3, g4, g5, -⟩ := HS1.out.at hbw hkl
                obtain ⟨rfl, rfl⟩ : b1 = b' ∧ off' = 0 := by simpa [eq_comm] using e6
                simp only [Nat.zero_add] at d0 d1 d2 d3 d4 d5 g0 g1 g2 g3 g4 g5
                have HTq := HT3.out.below hb3 hg3
                have q0 : wq.cell? ⟨w1.heap.size, 0, none⟩ = some (.int .i64 x) := HTq.cell 0
                have q1 : wq.cell? ⟨w1.heap.size, 1, none⟩ = some (.int .i64 y) := HTq.cell 1
                have ql := HTq.lt
                have HI := Lib.hid (fun W => HSQ.out i hlt W)
                have HK := Lib.hid (fun W => HSQ.out k hkl W)
                have hmn := HMIN.out i k hlt hkl
                generalize sqD (f i).x (f i).y x y = si at HI hmn
                generalize sqD (f k).x (f k).y x y = sk at HK hmn
                have HMN := Lib.hid hmn
                clear e5 e6 hb3 hbw hmn HTq
                go_wp2_with fail
                refine wp_region_later (by kernel_rfl) (by kernel_rfl) (fun hlx => ?_)
                repeat (go_big_quiet_step ((go_at_call 49; exact Later.call (HI.out _))))
                refine wpQuiet_nil ?_
                clear hlx
                intro w5 hbw5
                obtain ⟨hzw5, hcw5, hfw5⟩ := bfacts hbw5; (try simp at hzw5 hcw5 hfw5); (try (have : w.heap.size < w5.heap.size := by omega)); (try (have : w.heap.size + 1 < w5.heap.size := by omega)); (try (have : w.heap.size + 1 + 1 < w5.heap.size := by omega)); (try (have : w.heap.size + 1 + 1 + 1 < w5.heap.size := by omega))
                have l5 : b1 < w5.heap.size := by omega
                have m5 : w1.heap.size < w5.heap.size := by omega
                go_wp2_with fail
                refine wp_region_later (by kernel_rfl) (by kernel_rfl) (fun hlx => ?_)
                repeat (go_big_quiet_step ((go_at_call 49; exact Later.call (HK.out _))))
                refine wpQuiet_nil ?_
                clear hlx
                intro w6 hbw6
                obtain ⟨hzw6, hcw6, hfw6⟩ := bfacts hbw6; (try simp at hzw6 hcw6 hfw6); (try (have : w.heap.size < w6.heap.size := by omega)); (try (have : w.heap.size + 1 < w6.heap.size := by omega)); (try (have : w.heap.size + 1 + 1 < w6.heap.size := by omega)); (try (have : w.heap.size + 1 + 1 + 1 < w6.heap.size := by omega))
                have l6 : b1 < w6.heap.size := by omega
                by_cases he : (f i).id = nid
                · have hle : ¬ sk < si := by have := HMN.out he; omega
                  have heb : ((f i).id == nid) = true := beq_iff_eq.2 he
                  clear he
                  go_wp2
                  go_roundw
                  case rel => exact ⟨k + 1, by omega, by go_num, by repeat' (first | (with_reducible exact Below.refl _ _) | (with_reducible assumption) | (with_reducible refine Below.alloc ?_ ?_ _) | (with_reducible refine Below.drew ?_) | (with_reducible refine Below.setCell ?_ ?_ _) | (with_reducible refine Below.stepB (by assumption) ?_ ?_) | go_size)⟩
                  case measure => simp [intOf]; omega
                · have heb : ((f i).id == nid) = false := beq_eq_false_iff_ne.2 he
                  clear he
                  go_wp2
                  go_roundw
                  case rel => exact ⟨k + 1, by omega, by go_num, by repeat' (first | (with_reducible exact Below.refl _ _) | (with_reducible assumption) | (with_reducible refine Below.alloc ?_ ?_ _) | (with_reducible refine Below.drew ?_) | (with_reducible refine Below.setCell ?_ ?_ _) | (with_reducible refine Below.stepB (by assumption) ?_ ?_) | go_size)⟩
                  case measure => simp [intOf]; omega
              · obtain rfl : k = m := by omega
                go_wp2
                go_roundw
                case rel => exact ⟨i + 1, by omega, by go_num, HBR.out.trans (hbq.mono hzr)⟩
                case measure => simp [intOf]; omega
          · obtain rfl : i = m := by omega
            go_wp2_with fail
            go_meet
            exact ⟨_, rfl, hbr⟩
    obtain ⟨i9, rfl, hbc⟩ := hcut
    have HBa := Lib.hid (HB3.out.trans (hbc.mono hz3))
    clear hbc HS1 HT1 HT2 HT3 HNF HA1 HA2
    as_aux_lemma =>
      have hza : w.heap.size ≤ wc.heap.size := HBa.out.size
      go_wp2_with fail
      refine (DrawMeanBottom_any n c A B _ HR.out (HS.out.below HBa.out) hn).mono ?_
      rintro e w4 ⟨p, b4, c4, g, x2, y2, far, rfl, hp, hO, hbw4⟩
      have HS4 := Lib.hid (show SlS w4 (some ⟨b4, 0, none⟩) p g from hO.sl)
      clear hO
      have HB4 := Lib.hid (HBa.out.trans (hbw4.mono hza))
      have hz4 := HB4.out.size
      have hpp : p ≤ 1048576 := by omega
      have h1 := fun W (hb : Below w4.heap.size w4 W) => MeanBottom_any (some ⟨b4, 0, none⟩) p c4 g x2 y2 far W (HS4.out.below hb) hpp
      have h2 := fun W (hb : Below w4.heap.size w4 W) => specMean_any (some ⟨b4, 0, none⟩) p c4 g x2 y2 far W (HS4.out.below hb) hpp
      have HMF := Lib.hid (mean_facts (f := g) (x := x2) (y := y2) (far := far) (n := p))
      generalize meanOk g x2 y2 far p = okM at h1 h2 HMF
      generalize meanV g x2 y2 far p BS.mud = ma at h1 h2 HMF
      generalize meanV g x2 y2 far p BS.sand = mb at h1 h2 HMF
      generalize meanV g x2 y2 far p BS.rock = mc at h1 h2 HMF
      have HA1 := Lib.hid h1
      have HA2 := Lib.hid h2
      have HT4 := Lib.hid (blk_newC (g := w4.heap.size) (t := 27) (cs := #[.int .i64 x2, .int .i64 y2]) w4 rfl)
      clear h1 h2 hbw4
      go_wp2_with fail
      refine (HA1.out _ (by repeat' (first | (with_reducible exact Below.refl _ _) | (with_reducible assumption) | (with_reducible refine Below.alloc ?_ ?_ _) | (with_reducible refine Below.drew ?_) | (with_reducible refine Below.setCell ?_ ?_ _) | (with_reducible refine Below.stepB (by assumption) ?_ ?_) | go_size))).mono ?_
      rintro e w5 ⟨rfl, hbw5⟩
      obtain ⟨hzw5, hcw5, hfw5⟩ := bfacts hbw5; (try simp at hzw5 hcw5 hfw5); (try (have : w.heap.size < w5.heap.size := by omega)); (try (have : w.heap.size + 1 < w5.heap.size := by omega)); (try (have : w.heap.size + 1 + 1 < w5.heap.size := by omega)); (try (have : w.heap.size + 1 + 1 + 1 < w5.heap.size := by omega))
      have HT5 := Lib.hid (HT4.out.below hbw5 (by simp))
      have HB5 := Lib.hid ((show Below w4.heap.size w4 _ from by repeat' (first | (with_reducible exact Below.refl _ _) | (with_reducible assumption) | (with_reducible refine Below.alloc ?_ ?_ _) | (with_reducible refine Below.drew ?_) | (with_reducible refine Below.setCell ?_ ?_ _) | (with_reducible refine Below.stepB (by assumption) ?_ ?_) | go_size)).trans (hbw5.mono (by simp)))
      have q0 : w5.cell? ⟨w4.heap.size, 0, none⟩ = some (.int .i64 x2) := HT5.out.cell 0
      have q1 : w5.cell? ⟨w4.heap.size, 1, none⟩ = some (.int .i64 y2) := HT5.out.cell 1
      have ql := HT5.out.lt
      clear hcw5 hfw5
      go_wp2_with fail
      refine (HA2.out _ HB5.out).mono ?_
      rintro e w6 ⟨rfl, hbw6⟩
      obtain ⟨hzw6, hcw6, hfw6⟩ := bfacts hbw6; (try simp at hzw6 hcw6 hfw6); (try (have : w.heap.size < w6.heap.size := by omega)); (try (have : w.heap.size + 1 < w6.heap.size := by omega)); (try (have : w.heap.size + 1 + 1 < w6.heap.size := by omega)); (try (have : w.heap.size + 1 + 1 + 1 < w6.heap.size := by omega))
      have HB6 := Lib.hid (HB4.out.trans ((HB5.out.trans (hbw6.mono (by omega))).mono hz4))
      have hz6 := HB6.out.size
      clear hbw5 hbw6 hcw6 hfw6 q0 q1 ql
      go_upto_region 21 with fail
      go_cut [187] (fun v wx => v = .bool false ∧ w6 = wx)
      case first =>
        cases okM
        · go_wp2_with fail
          go_meet
          exact ⟨rfl, rfl⟩
        · obtain ⟨m1, m2, m3, m4, m5⟩ := HMF.out (by first | trivial | rfl)
          have h100 : ¬ 100 < ma + mb + mc := by omega
          have h98 : ¬ ma + mb + mc < 98 := by omega
          go_wp2_with fail
          go_meet
          exact ⟨rfl, rfl⟩
      obtain ⟨rfl, rfl⟩ := hcut
      clear HMF HA1 HA2 HS4 HT4 HT5
      as_aux_lemma =>
        go_wp2_with fail
        refine (DrawOddSamples_any n c A B _ HR.out (HS.out.below HB6.out) hn).mono ?_
        rintro e w7 ⟨r, b7, c7, u, cl, rfl, hr, hO, hbw7⟩
        have HS7 := Lib.hid (show SlS w7 (some ⟨b7, 0, none⟩) r u from hO.sl)
        clear hO
        have HB7 := Lib.hid (HB6.out.trans (hbw7.mono hz6))
        have hz7 := HB7.out.size
        have hrr : r ≤ 1048576 := by omega
        have h1 := fun W (hb : Below w7.heap.size w7 W) => OddSamples_any (some ⟨b7, 0, none⟩) r c7 u cl W (HS7.out.below hb) hrr
        have h2 := fun W (hb : Below w7.heap.size w7 W) => specOdd_any (some ⟨b7, 0, none⟩) r c7 u cl W (HS7.out.below hb) hrr
        have HOF := Lib.hid (odd_facts (f := u) (far := cl) (n := r))
        have hOl := oddL_len u cl r hrr
        generalize oddOk u cl r = okO at h1 h2 HOF
        generalize oddL u cl r = OL at h1 h2 HOF hOl
        have HA1 := Lib.hid h1
        have HA2 := Lib.hid h2
        clear h1 h2 hbw7
        go_wp2_with fail
        refine (HA1.out _ (Below.refl _ _)).mono ?_
        rintro e w8 ⟨A8, c8, rfl, OG, hbw8⟩
        obtain ⟨hzw8, hcw8, hfw8⟩ := bfacts hbw8; (try simp at hzw8 hcw8 hfw8); (try (have : w.heap.size < w8.heap.size := by omega)); (try (have : w.heap.size + 1 < w8.heap.size := by omega)); (try (have : w.heap.size + 1 + 1 < w8.heap.size := by omega)); (try (have : w.heap.size + 1 + 1 + 1 < w8.heap.size := by omega))
        go_wp2_with fail
        refine (HA2.out _ hbw8).mono ?_
        rintro e w9 ⟨A9, c9, rfl, OW, hbw9⟩
        obtain ⟨hzw9, hcw9, hfw9⟩ := bfacts hbw9; (try simp at hzw9 hcw9 hfw9); (try (have : w.heap.size < w9.heap.size := by omega)); (try (have : w.heap.size + 1 < w9.heap.size := by omega)); (try (have : w.heap.size + 1 + 1 < w9.heap.size := by omega)); (try (have : w.heap.size + 1 + 1 + 1 < w9.heap.size := by omega))
        have HOG := Lib.hid OG
        go_wp2_with fail
        refine (rInts_same _ _ _ _ _ _ _ (OG.below hbw9).sl OW.sl hOl).mono ?_
        rintro e w10 ⟨rfl, hbw10⟩
        obtain ⟨hzw10, hcw10, hfw10⟩ := bfacts hbw10; (try simp at hzw10 hcw10 hfw10); (try (have : w.heap.size < w10.heap.size := by omega)); (try (have : w.heap.size + 1 < w10.heap.size := by omega)); (try (have : w.heap.size + 1 + 1 < w10.heap.size := by omega)); (try (have : w.heap.size + 1 + 1 + 1 < w10.heap.size := by omega))
        have HW10 := Lib.hid (show Below w7.heap.size w7 w10 from by repeat' (first | (with_reducible exact Below.refl _ _) | (with_reducible assumption) | (with_reducible refine Below.alloc ?_ ?_ _) | (with_reducible refine Below.drew ?_) | (with_reducible refine Below.setCell ?_ ?_ _) | (with_reducible refine Below.stepB (by assumption) ?_ ?_) | go_size))
        have HB10 := Lib.hid (HB7.out.trans (HW10.out.mono hz7))
        have HG10 := Lib.hid ((HOG.out.below hbw9).below hbw10)
        have hz10 := HB10.out.size
        have hz710 := HW10.out.size
        clear OG OW hbw8 hbw9 hbw10 hcw8 hcw9 hcw10 hfw8 hfw9 hfw10
        go_upto_block 4 with fail
        go_cut [32] (fun v32 wx => ∃ i9 : Int, v32 = .int .i64 i9 ∧ Below w10.heap.size w10 wx)
        case first =>
          go_wp2_with fail
          cases okO
          · go_loopw [32] (fun v32 wr => v32 = .int .i64 0 ∧ w10 = wr) (fun _ _ => 0)
            case atStart => exact ⟨rfl, rfl⟩
            case round =>
              obtain ⟨rfl, rfl⟩ := hrel
              by_cases hr0 : 0 < r
              · go_wp2_with fail
                go_meet
                exact ⟨_, rfl, Below.refl _ _⟩
              · go_wp2_with fail
                go_meet
                exact ⟨_, rfl, Below.refl _ _⟩
          · obtain ⟨hok, ⟨z1, z2⟩, hodd⟩ := HOF.out (by first | trivial | rfl)
            have HLT := Lib.hid (fun i (hi : i < r) W => LettersOf_yes (u i) W (hok i hi))
            have HSQ := Lib.hid (fun i k (hi : i < r) (hk : k < r) W => SquareBetween_any (u i).x (u i).y (u k).x (u k).y W (okS_spot (hok i hi)) (okS_spot (hok k hk)))
            have HODD := Lib.hid hodd
            clear hok hodd
            go_loopw [32] (fun v32 wr => ∃ i : Nat, i ≤ r ∧ v32 = .int .i64 i ∧ Below w10.heap.size w10 wr) (fun v32 _ => r - (intOf v32).toNat)
            case atStart => exact ⟨0, Nat.zero_le _, rfl, Below.refl _ _⟩
            case round =>
              obtain ⟨i, hi, rfl, hbr⟩ := hrel
              have hzr := hbr.size
              have HBR := Lib.hid hbr
              by_cases hlt : i < r
              · clear hbr
                go_wp2_with fail
                go_loopw [33] (fun v33 wq => ∃ k : Nat, k ≤ r ∧ v33 = .int .i64 k ∧ Below wr.heap.size wr wq) (fun v33 _ => r - (intOf v33).toNat)
                case atStart => exact ⟨0, Nat.zero_le _, rfl, Below.refl _ _⟩
                case round =>
                  rename World => wq
                  obtain ⟨k, hk, rfl, hbq⟩ := hrel
                  have hzq := hbq.size
                  by_cases hkl : k < r
                  · have hb3 : Below w10.heap.size w10 wq := HBR.out.trans (hbq.mono hzr)
                    have hbw : Below w7.heap.size w7 wq := HW10.out.trans (hb3.mono hz710)
                    obtain ⟨b', off', e5, hbl, hbl2, d0, d1, d2, d3, d4, d5, -⟩ := HS7.out.at hbw hlt
                    obtain ⟨rfl, rfl⟩ : b7 = b' ∧ off' = 0 := by simpa [eq_comm] using e5
                    obtain ⟨b', off', e6, _, _, g0, g1, g2, g3, g4, g5, -⟩ := HS7.out.at hbw hkl
                    obtain ⟨rfl, rfl⟩ : b7 = b' ∧ off' = 0 := by simpa [eq_comm] using e6
                    simp only [Nat.zero_add] at d0 d1 d2 d3 d4 d5 g0 g1 g2 g3 g4 g5
                    have hLi := fun W => HLT.out i hlt W
                    have hLk := fun W => HLT.out k hkl W
                    have hSQ := fun W => HSQ.out i k hlt hkl W
                    have hod := HODD.out i k hlt hkl
                    obtain ⟨si, hsi⟩ : ∃ si, lettV (u i) = si := ⟨_, rfl⟩
                    obtain ⟨sk, hsk⟩ : ∃ sk, lettV (u k) = sk := ⟨_, rfl⟩
                    obtain ⟨sq, hsq⟩ : ∃ sq, sqD (u i).x (u i).y (u k).x (u k).y = sq := ⟨_, rfl⟩
                    rw [hsi] at hLi hod
                    rw [hsk] at hLk hod
                    rw [hsq] at hSQ hod
                    have HHA := Lib.hid (fun W (hb : Below w10.heap.size w10 W) => rHas_any A8 OL.length c8 OL (u i).id W ((HG10.out.below hb).sl) hOl rfl)
                    have HLi := Lib.hid hLi
                    have HLk := Lib.hid hLk
                    have HSQ1 := Lib.hid hSQ
                    have HOD := Lib.hid hod
                    have HB3 := Lib.hid hb3
                    clear e5 e6 hb3 hbw hod hLi hLk hSQ hsi hsk hsq
                    go_wp2_with fail
                    refine (HLi.out _).mono ?_
                    rintro e w11 ⟨rfl, hbw11⟩
                    obtain ⟨hzw11, hcw11, hfw11⟩ := bfacts hbw11; (try simp at hzw11 hcw11 hfw11); (try (have : w.heap.size < w11.heap.size := by omega)); (try (have : w.heap.size + 1 < w11.heap.size := by omega)); (try (have : w.heap.size + 1 + 1 < w11.heap.size := by omega)); (try (have : w.heap.size + 1 + 1 + 1 < w11.heap.size := by omega))
                    have l11 : b7 < w11.heap.size := by omega
                    go_wp2_with fail
                    refine (HLk.out _).mono ?_
                    rintro e w12 ⟨rfl, hbw12⟩
                    obtain ⟨hzw12, hcw12, hfw12⟩ := bfacts hbw12; (try simp at hzw12 hcw12 hfw12); (try (have : w.heap.size < w12.heap.size := by omega)); (try (have : w.heap.size + 1 < w12.heap.size := by omega)); (try (have : w.heap.size + 1 + 1 < w12.heap.size := by omega)); (try (have : w.heap.size + 1 + 1 + 1 < w12.heap.size := by omega))
                    have l12 : b7 < w12.heap.size := by omega
                    go_wp2_with fail
                    refine wp_region_later (by kernel_rfl) (by kernel_rfl) (fun hlx => ?_)
                    repeat (go_big_quiet_step ((go_at_call 49; exact Later.call (HSQ1.out _))))
                    refine wpQuiet_nil ?_
                    clear hlx
                    intro w13 hbw13
                    obtain ⟨hzw13, hcw13, hfw13⟩ := bfacts hbw13; (try simp at hzw13 hcw13 hfw13); (try (have : w.heap.size < w13.heap.size := by omega)); (try (have : w.heap.size + 1 < w13.heap.size := by omega)); (try (have : w.heap.size + 1 + 1 < w13.heap.size := by omega)); (try (have : w.heap.size + 1 + 1 + 1 < w13.heap.size := by omega))
                    have l13 : b7 < w13.heap.size := by omega
                    have HB13 := Lib.hid (show Below wq.heap.size wq w13 from by repeat' (first | (with_reducible exact Below.refl _ _) | (with_reducible assumption) | (with_reducible refine Below.alloc ?_ ?_ _) | (with_reducible refine Below.drew ?_) | (with_reducible refine Below.setCell ?_ ?_ _) | (with_reducible refine Below.stepB (by assumption) ?_ ?_) | go_size))
                    have HW13 := Lib.hid (HB3.out.trans (HB13.out.mono HB3.out.size))
                    by_cases hki : k = i
                    · have hkb : ((k : Int) != (i : Int)) = false := by simp [hki]
                      have hke : ((k : Int) == (i : Int)) = true := by simp [hki]
                      clear hki
                      go_wp2
                      go_roundw
                      case rel => exact ⟨k + 1, by omega, by go_num, hbq.trans (HB13.out.mono hzq)⟩
                      case measure => simp [intOf]; omega
                    · have hkb : ((k : Int) != (i : Int)) = true := by simp; omega
                      have hke : ((k : Int) == (i : Int)) = false := by simp; omega
                      have hHA := HHA.out w13 HW13.out
                      by_cases hmm : (u i).id ∈ OL
                      · rw [decide_eq_true hmm] at hHA
                        have HHA1 := Lib.hid hHA
                        clear hHA
                        go_wp2_with fail
                        refine HHA1.out.mono ?_
                        rintro e w14 ⟨rfl, hbw14⟩
                        have HB14 := Lib.hid (HB13.out.trans (hbw14.mono HB13.out.size))
                        clear hbw14
                        by_cases hs : sq ≤ cl * cl
                        · have hne := HOD.out hki hmm hs
                          have hsb : (si == sk) = false := by simpa using hne
                          have hsd : decide (si = sk) = false := decide_eq_false hne
                          clear hne hmm hki
                          go_wp2
                          go_roundw
                          case rel => exact ⟨k + 1, by omega, by go_num, hbq.trans (HB14.out.mono hzq)⟩
                          case measure => simp [intOf]; omega
                        · clear hmm hki
                          go_wp2
                          go_roundw
                          case rel => exact ⟨k + 1, by omega, by go_num, hbq.trans (HB14.out.mono hzq)⟩
                          case measure => simp [intOf]; omega
                      · rw [decide_eq_false hmm] at hHA
                        have HHA1 := Lib.hid hHA
                        clear hHA hmm hki
                        go_wp2_with fail
                        refine HHA1.out.mono ?_
                        rintro e w14 ⟨rfl, hbw14⟩
                        have HB14 := Lib.hid (HB13.out.trans (hbw14.mono HB13.out.size))
                        clear hbw14
                        go_wp2
                        go_roundw
                        case rel => exact ⟨k + 1, by omega, by go_num, hbq.trans (HB14.out.mono hzq)⟩
                        case measure => simp [intOf]; omega
                  · obtain rfl : k = r := by omega
                    go_wp2
                    go_roundw
                    case rel => exact ⟨i + 1, by omega, by go_num, HBR.out.trans (hbq.mono hzr)⟩
                    case measure => simp [intOf]; omega
              · obtain rfl : i = r := by omega
                go_wp2_with fail
                go_meet
                exact ⟨_, rfl, hbr⟩
        obtain ⟨i10, rfl, hbc⟩ := hcut
        have HBy := Lib.hid (HB10.out.trans (hbc.mono hz10))
        clear hbc
        have hzc : w.heap.size ≤ wc.heap.size := HBy.out.size
        go_wp2_with fail
        refine (DrawLettersOf_any n c A B _ HR.out (HS.out.below HBy.out) hn).mono ?_
        rintro e w20 ⟨s, rfl, hbw20⟩
        have HB20 := Lib.hid (HBy.out.trans (hbw20.mono hzc))
        have hz20 := HB20.out.size
        clear hbw20
        have H1 := Lib.hid (fun W => LettersOf_any s W)
        have H2 := Lib.hid (fun W => specLetters_any s W)
        go_wp2_with fail
        refine (H1.out _).mono ?_
        rintro e w21 ⟨rfl, hbw21⟩
        obtain ⟨hzw21, hcw21, hfw21⟩ := bfacts hbw21; (try simp at hzw21 hcw21 hfw21); (try (have : w.heap.size < w21.heap.size := by omega)); (try (have : w.heap.size + 1 < w21.heap.size := by omega)); (try (have : w.heap.size + 1 + 1 < w21.heap.size := by omega)); (try (have : w.heap.size + 1 + 1 + 1 < w21.heap.size := by omega))
        go_wp2_with fail
        refine (H2.out _).mono ?_
        rintro e w22 ⟨rfl, hbw22⟩
        obtain ⟨hzw22, hcw22, hfw22⟩ := bfacts hbw22; (try simp at hzw22 hcw22 hfw22); (try (have : w.heap.size < w22.heap.size := by omega)); (try (have : w.heap.size + 1 < w22.heap.size := by omega)); (try (have : w.heap.size + 1 + 1 < w22.heap.size := by omega)); (try (have : w.heap.size + 1 + 1 + 1 < w22.heap.size := by omega))
        have hb := HB20.out
        go_wp2
        go_ret
        refine ⟨rfl, ?_⟩
        repeat' (first | (with_reducible exact Below.refl _ _) | (with_reducible assumption) | (with_reducible refine Below.alloc ?_ ?_ _) | (with_reducible refine Below.drew ?_) | (with_reducible refine Below.setCell ?_ ?_ _) | (with_reducible refine Below.stepB (by assumption) ?_ ?_) | go_size)
  · have hbig : decide (65536 < (n : Int)) = true := decide_eq_true (by omega)
    clear hS hR
    go_enter Try.func13, Try.ntmps13
    go_wp2_with (go_at_call 47; refine (rBig_any A n c _).mono ?_; rintro e w' ⟨rfl, rfl⟩)
    go_ret
    exact ⟨rfl, Below.refl _ _⟩
end Go.Proofs.Ytfecepjdjikenaa
