/- The law on dangers, over the contracts. -/
import Derived.Test.YtclcgckledbpfaaDoorFdP
import Derived.Test.YtclcgckledbpfaaDoorDrawE
import Derived.Test.YtclcgckledbpfaaDoorHelpF
import Derived.Test.YtclcgckledbpfaaDoorTxtL
import Derived.Deep.CutBlock
import Derived.Deep.DeepCutAuto
namespace Go.Proofs.YtclcgckledbpfaaDoor
open Go.RowKit
def safeR (s : DG) : Int := if okD s = true then safeV s else 0
theorem SafeOver_r (s : DG) (w : World) : Calls Tryd.prog 10 #[.agg #[.int .i64 s.id, .int .i64 s.kind, .int .i64 s.x, .int .i64 s.y, .int .i64 s.least, .int .i64 s.quality, .int .i64 s.seen]] w fun e w' => e = .returned (.tuple #[.int .i64 (safeR s), .bool (okD s)]) ∧ Below w.heap.size w w' := by
  unfold safeR
  cases h : okD s with
  | true => exact SafeOver_yes s w h
  | false => exact SafeOver_no s w h
theorem specSafeOver_r (s : DG) (w : World) : Calls Tryd.prog 11 #[.agg #[.int .i64 s.id, .int .i64 s.kind, .int .i64 s.x, .int .i64 s.y, .int .i64 s.least, .int .i64 s.quality, .int .i64 s.seen]] w fun e w' => e = .returned (.tuple #[.int .i64 (safeR s), .bool (okD s)]) ∧ Below w.heap.size w w' := by
  unfold safeR
  cases h : okD s with
  | true => exact specSafeOver_yes s w h
  | false => exact specSafeOver_no s w h
theorem safeR_le {s : DG} (h : okD s = true) : safeR s ≤ s.least := by
  rw [safeR, if_pos h]
  exact safeV_le h
set_option maxRecDepth 100000 in
set_option maxHeartbeats 16000000 in
theorem law_FnDangers (n c : Nat) (A : Option Addr) (B : Nat → Int) (w : World) (hT : TabB w.heap.size w) (hR : ∀ i, 0 ≤ B i ∧ B i ≤ 255) (hS : Sl w 1 A n (fun i _ => .int .u8 (B i))) : Calls Tryd.prog 4 #[.slice A n c] w
    fun e w' => e = .returned (.bool true) ∧ Below w.heap.size w w' := by
  by_cases hn : n ≤ 65536
  · have HS := Lib.hid hS
    have HR := Lib.hid hR
    have HTX := Lib.hid (fun s W (hb : Below w.heap.size w W) => DangerText_any s W (Lib.tabBelow_of_tabIs (Lib.TabBelow.here (hT.on hb))))
    clear hS hR hT
    have hbig : decide (65536 < (n : Int)) = false := decide_eq_false (by omega)
    go_enter Tryd.func4, Tryd.ntmps4
    go_wp2_with (go_at_call 8; refine (rBig_any A n c _).mono ?_; rintro e w' ⟨rfl, rfl⟩)
    refine (DrawSafeOver_any n c A B _ HR.out HS.out hn).mono ?_
    rintro e w1 ⟨s, rfl, hbw1⟩
    have HB1 := Lib.hid hbw1
    have hz1 := hbw1.size
    have h1 := fun W => SafeOver_r s W
    have h2 := fun W => specSafeOver_r s W
    have h3 := fun W => IsDanger_any s W
    have hle := fun h => safeR_le (s := s) h
    generalize okD s = q at h1 h2 h3 hle
    generalize safeR s = v at h1 h2 hle
    have HA1 := Lib.hid h1
    have HA2 := Lib.hid h2
    have HA3 := Lib.hid h3
    have HLE := Lib.hid hle
    clear h1 h2 h3 hle hbw1
    go_wp2_with fail
    refine (HA1.out _).mono ?_
    rintro e w2 ⟨rfl, hbw2⟩
    obtain ⟨hzw2, hcw2, hfw2⟩ := bfacts hbw2; (try simp at hzw2 hcw2 hfw2); (try (have : w.heap.size < w2.heap.size := by omega)); (try (have : w.heap.size + 1 < w2.heap.size := by omega)); (try (have : w.heap.size + 1 + 1 < w2.heap.size := by omega)); (try (have : w.heap.size + 1 + 1 + 1 < w2.heap.size := by omega))
    go_wp2_with fail
    refine (HA2.out _).mono ?_
    rintro e w3 ⟨rfl, hbw3⟩
    obtain ⟨hzw3, hcw3, hfw3⟩ := bfacts hbw3; (try simp at hzw3 hcw3 hfw3); (try (have : w.heap.size < w3.heap.size := by omega)); (try (have : w.heap.size + 1 < w3.heap.size := by omega)); (try (have : w.heap.size + 1 + 1 < w3.heap.size := by omega)); (try (have : w.heap.size + 1 + 1 + 1 < w3.heap.size := by omega))
    have l12 : w1.heap.size < w2.heap.size := by omega
    have l23 : w1.heap.size < w3.heap.size := by omega
    have k0 : w3.cell? ⟨w1.heap.size, 0, none⟩ = some (.int .i64 s.id) := by simp [hcw3, hcw2, l12]
    have k1 : w3.cell? ⟨w1.heap.size, 1, none⟩ = some (.int .i64 s.kind) := by simp [hcw3, hcw2, l12]
    have k2 : w3.cell? ⟨w1.heap.size, 2, none⟩ = some (.int .i64 s.x) := by simp [hcw3, hcw2, l12]
    have k3 : w3.cell? ⟨w1.heap.size, 3, none⟩ = some (.int .i64 s.y) := by simp [hcw3, hcw2, l12]
    have k4 : w3.cell? ⟨w1.heap.size, 4, none⟩ = some (.int .i64 s.least) := by simp [hcw3, hcw2, l12]
    have k5 : w3.cell? ⟨w1.heap.size, 5, none⟩ = some (.int .i64 s.quality) := by simp [hcw3, hcw2, l12]
    have k6 : w3.cell? ⟨w1.heap.size, 6, none⟩ = some (.int .i64 s.seen) := by simp [hcw3, hcw2, l12]
    clear hcw3 hcw2
    go_upto_region 6 with fail
    go_cut [75] (fun v wx => v = .bool false ∧ Below w3.heap.size w3 wx)
    case first =>
      cases q
      · go_wp2_with (first | (go_at_call 12; refine (HA3.out _).mono ?_; rintro e w4 ⟨rfl, hbw4⟩; obtain ⟨hzw4, hcw4, hfw4⟩ := bfacts hbw4; (try simp at hzw4 hcw4 hfw4); (try (have : w.heap.size < w4.heap.size := by omega)); (try (have : w.heap.size + 1 < w4.heap.size := by omega)); (try (have : w.heap.size + 1 + 1 < w4.heap.size := by omega)); (try (have : w.heap.size + 1 + 1 + 1 < w4.heap.size := by omega))))
        go_meet
        exact ⟨rfl, by repeat' (first | (with_reducible exact Below.refl _ _) | (with_reducible assumption) | (with_reducible refine Below.alloc ?_ ?_ _) | (with_reducible refine Below.drew ?_) | (with_reducible refine Below.setCell ?_ ?_ _) | (with_reducible refine Below.stepB (by assumption) ?_ ?_) | go_size)⟩
      · have hnl : ¬ s.least < v := by have := HLE.out (by first | trivial | rfl); omega
        go_wp2_with (first | (go_at_call 12; refine (HA3.out _).mono ?_; rintro e w4 ⟨rfl, hbw4⟩; obtain ⟨hzw4, hcw4, hfw4⟩ := bfacts hbw4; (try simp at hzw4 hcw4 hfw4); (try (have : w.heap.size < w4.heap.size := by omega)); (try (have : w.heap.size + 1 < w4.heap.size := by omega)); (try (have : w.heap.size + 1 + 1 < w4.heap.size := by omega)); (try (have : w.heap.size + 1 + 1 + 1 < w4.heap.size := by omega))))
        go_meet
        exact ⟨by first | rfl | simpa using hnl, by repeat' (first | (with_reducible exact Below.refl _ _) | (with_reducible assumption) | (with_reducible refine Below.alloc ?_ ?_ _) | (with_reducible refine Below.drew ?_) | (with_reducible refine Below.setCell ?_ ?_ _) | (with_reducible refine Below.stepB (by assumption) ?_ ?_) | go_size)⟩
    obtain ⟨rfl, hbc⟩ := hcut
    have HBa := Lib.hid (show Below w.heap.size w wc from by
      have h3 : Below w.heap.size w w3 := HB1.out.trans ((show Below w1.heap.size w1 w3 from by repeat' (first | (with_reducible exact Below.refl _ _) | (with_reducible assumption) | (with_reducible refine Below.alloc ?_ ?_ _) | (with_reducible refine Below.drew ?_) | (with_reducible refine Below.setCell ?_ ?_ _) | (with_reducible refine Below.stepB (by assumption) ?_ ?_) | go_size)).mono hz1)
      exact h3.trans (hbc.mono h3.size))
    clear hbc HA1 HA2 HA3 HLE hbw2 hbw3 k0 k1 k2 k3 k4 k5 k6 l12 l23 hfw2 hfw3 hzw2 hzw3 HB1 hz1
    obtain ⟨wa, rfl⟩ : ∃ x, x = wc := ⟨_, rfl⟩
    have hza : w.heap.size ≤ wa.heap.size := HBa.out.size
    as_aux_lemma =>
      go_wp2_with fail
      refine (DrawBlockedFor_any n c A B _ HR.out (HS.out.below HBa.out) hn).mono ?_
      rintro e w5 ⟨m, b5, c5, f, t, a, rfl, hm, hO, hbw5⟩
      have HS5 := Lib.hid (show SlDG w5 (some ⟨b5, 0, none⟩) m f from hO.sl)
      clear hO
      have HB5 := Lib.hid (HBa.out.trans (hbw5.mono hza))
      have hz5 := HB5.out.size
      have hmm : m ≤ 1048576 := by omega
      have h1 := fun W (hb : Below w5.heap.size w5 W) => BlockedFor_any (some ⟨b5, 0, none⟩) m c5 f t a W (HS5.out.below hb) hmm
      have h2 := fun W (hb : Below w5.heap.size w5 W) => specBlocked_any (some ⟨b5, 0, none⟩) m c5 f t a W (HS5.out.below hb) hmm
      have h3 := fun W (hb : Below w5.heap.size w5 W) => BlockedFor_any (some ⟨b5, 0, none⟩) m c5 f (wrap64 (t + 1)) a W (HS5.out.below hb) hmm
      have HOL := Lib.hid (fun h h' => block_more (f := f) (d := t) (u := a) (n := m) h h')
      have hOl := blockL_len f t a m hmm
      have hQl := blockL_len f (wrap64 (t + 1)) a m hmm
      generalize blockOk f t a m = okO at h1 h2 HOL
      generalize blockOk f (wrap64 (t + 1)) a m = okQ at h3 HOL
      generalize blockL f t a m = OL at h1 h2 HOL hOl
      generalize blockL f (wrap64 (t + 1)) a m = QL at h3 HOL hQl
      have HA1 := Lib.hid h1
      have HA2 := Lib.hid h2
      have HA3 := Lib.hid h3
      clear h1 h2 h3 hbw5
      go_wp2_with fail
      refine (HA1.out _ (Below.refl _ _)).mono ?_
      rintro e w6 ⟨A6, c6, rfl, OG, hbw6⟩
      obtain ⟨hzw6, hcw6, hfw6⟩ := bfacts hbw6; (try simp at hzw6 hcw6 hfw6); (try (have : w.heap.size < w6.heap.size := by omega)); (try (have : w.heap.size + 1 < w6.heap.size := by omega)); (try (have : w.heap.size + 1 + 1 < w6.heap.size := by omega)); (try (have : w.heap.size + 1 + 1 + 1 < w6.heap.size := by omega))
      have HOG := Lib.hid OG
      go_wp2_with fail
      refine (HA2.out _ hbw6).mono ?_
      rintro e w7 ⟨A7, c7, rfl, OW, hbw7⟩
      obtain ⟨hzw7, hcw7, hfw7⟩ := bfacts hbw7; (try simp at hzw7 hcw7 hfw7); (try (have : w.heap.size < w7.heap.size := by omega)); (try (have : w.heap.size + 1 < w7.heap.size := by omega)); (try (have : w.heap.size + 1 + 1 < w7.heap.size := by omega)); (try (have : w.heap.size + 1 + 1 + 1 < w7.heap.size := by omega))
      go_wp2_with fail
      refine (rInts_same _ _ _ _ _ _ _ (OG.below hbw7).sl OW.sl hOl).mono ?_
      rintro e w8 ⟨rfl, hbw8⟩
      obtain ⟨hzw8, hcw8, hfw8⟩ := bfacts hbw8; (try simp at hzw8 hcw8 hfw8); (try (have : w.heap.size < w8.heap.size := by omega)); (try (have : w.heap.size + 1 < w8.heap.size := by omega)); (try (have : w.heap.size + 1 + 1 < w8.heap.size := by omega)); (try (have : w.heap.size + 1 + 1 + 1 < w8.heap.size := by omega))
      have HW8 := Lib.hid (show Below w5.heap.size w5 w8 from by repeat' (first | (with_reducible exact Below.refl _ _) | (with_reducible assumption) | (with_reducible refine Below.alloc ?_ ?_ _) | (with_reducible refine Below.drew ?_) | (with_reducible refine Below.setCell ?_ ?_ _) | (with_reducible refine Below.stepB (by assumption) ?_ ?_) | go_size))
      have HG8 := Lib.hid ((HOG.out.below hbw7).below hbw8)
      clear OG OW hbw6 hbw7 hbw8 hcw6 hcw7 hcw8 hfw6 hfw7 hfw8 hzw6 hzw7 hzw8
      go_wp2_with fail
      refine (HA3.out _ HW8.out).mono ?_
      rintro e w9 ⟨A9, c9, rfl, OQ, hbw9⟩
      obtain ⟨hzw9, hcw9, hfw9⟩ := bfacts hbw9; (try simp at hzw9 hcw9 hfw9); (try (have : w.heap.size < w9.heap.size := by omega)); (try (have : w.heap.size + 1 < w9.heap.size := by omega)); (try (have : w.heap.size + 1 + 1 < w9.heap.size := by omega)); (try (have : w.heap.size + 1 + 1 + 1 < w9.heap.size := by omega))
      have HG9 := Lib.hid (HG8.out.below hbw9)
      have HQ9 := Lib.hid OQ
      have HW9 := Lib.hid (HW8.out.trans (hbw9.mono HW8.out.size))
      have HB9 := Lib.hid (HB5.out.trans (HW9.out.mono hz5))
      have hz9 := HB9.out.size
      clear OQ hbw9 hcw9 hfw9 HOG HG8 HA1 HA2 HA3
      go_upto_region 14 with fail
      go_cut [116] (fun v wx => ∃ t : Bool, v = .bool t ∧ Hid (t = true → okO = true ∧ okQ = true) ∧ w9 = wx)
      case first =>
        cases okO
        · go_wp2_with fail
          go_meet
          exact ⟨false, rfl, fun h => absurd h (by decide), rfl⟩
        · cases okQ
          · go_wp2_with fail
            go_meet
            exact ⟨false, rfl, fun h => absurd h (by decide), rfl⟩
          · go_wp2_with fail
            go_meet
            exact ⟨true, rfl, fun _ => ⟨by first | trivial | rfl, by first | trivial | rfl⟩, rfl⟩
      obtain ⟨tt, rfl, HTT, rfl⟩ := hcut
      go_upto_if 116 with fail
      go_cut [17] (fun v17 wx => Below w9.heap.size w9 wx)
      case first =>
        cases tt
        · go_wp2_with fail
          go_meet
          exact Below.refl _ _
        · obtain ⟨eO, eQ⟩ := HTT.out (by first | trivial | rfl)
          have HIN := Lib.hid (HOL.out eO eQ)
          clear eO eQ
          go_wp2_with fail
          go_loopw [17] (fun v17 wr => ∃ i : Nat, i ≤ OL.length ∧ v17 = .int .i64 i ∧ Below w9.heap.size w9 wr) (fun v17 _ => OL.length - (intOf v17).toNat)
          case atStart => exact ⟨0, Nat.zero_le _, rfl, Below.refl _ _⟩
          case round =>
            obtain ⟨i, hi, rfl, hbr⟩ := hrel
            have hzr := hbr.size
            have HBR := Lib.hid hbr
            by_cases hlt : i < OL.length
            · obtain ⟨b', off', rfl, hbl, hbl2, c0⟩ := SlI.at HG9.out.sl hbr hlt
              have hmem : OL.getD i 0 ∈ QL := HIN.out _ (by simp [List.getD, hlt])
              have hH := fun W (hb : Below w9.heap.size w9 W) => rHas_any A9 QL.length c9 QL (OL.getD i 0) W ((HQ9.out.below hb).sl) hQl rfl
              rw [decide_eq_true hmem] at hH
              have HHA := Lib.hid hH
              clear hH hmem hbr
              replace c0 : wr.cell? ⟨b', off' + i, none⟩ = some (.int .i64 (OL.getD i 0)) := c0
              generalize OL.getD i 0 = z at c0 HHA
              go_wp2_with fail
              refine (HHA.out _ HBR.out).mono ?_
              rintro e w10 ⟨rfl, hbw10⟩
              have HW10 := Lib.hid (HBR.out.trans (hbw10.mono hzr))
              clear hbw10
              go_wp2
              go_roundw
              case rel => exact ⟨i + 1, by omega, by go_num, HW10.out⟩
              case measure => simp [intOf]; omega
            · obtain rfl : i = OL.length := by omega
              go_wp2_with fail
              go_meet
              exact hbr
      have HBb := Lib.hid (HB9.out.trans (hcut.mono hz9))
      clear hcut HOL HTT HG9 HQ9 HS5 HB5 HW8 HW9 HB9 HBa hOl hQl
      obtain ⟨wb, rfl⟩ : ∃ x, x = wc := ⟨_, rfl⟩
      have hzb : w.heap.size ≤ wb.heap.size := HBb.out.size
      as_aux_lemma =>
        go_wp2_with fail
        refine (DrawSeeAgain_any n c A B _ HR.out (HS.out.below HBb.out) hn).mono ?_
        rintro e w11 ⟨k, b11, c11, g, id, ti, le, qu, rfl, hk, hO, hbw11⟩
        have HS11 := Lib.hid (show SlDG w11 (some ⟨b11, 0, none⟩) k g from hO.sl)
        clear hO
        have HB11 := Lib.hid (HBb.out.trans (hbw11.mono hzb))
        have hz11 := HB11.out.size
        have hkk : k ≤ 1048576 := by omega
        have h1 := fun W (hb : Below w11.heap.size w11 W) => SeeAgain_any b11 0 k c11 g id ti le qu W (HS11.out.below hb) hkk
        have h2 := fun W (hb : Below w11.heap.size w11 W) => specSee_any b11 0 k c11 g id ti le qu W (HS11.out.below hb) hkk
        have HSF := Lib.hid (fun h => see_facts (f := g) (n := k) (id := id) (t := ti) (l := le) (q := qu) h)
        generalize updD g (seeK g k id) ti le qu = u at h1 h2 HSF
        generalize seeB g k id ti le qu = okS at h1 h2 HSF
        have hNk : seeN okS k ≤ 1048576 := by unfold seeN; split <;> omega
        have HA1 := Lib.hid h1
        have HA2 := Lib.hid h2
        clear h1 h2 hbw11
        go_wp2_with fail
        refine (HA1.out _ (Below.refl _ _)).mono ?_
        rintro e w12 ⟨A12, c12, rfl, OG, hbw12⟩
        obtain ⟨hzw12, hcw12, hfw12⟩ := bfacts hbw12; (try simp at hzw12 hcw12 hfw12); (try (have : w.heap.size < w12.heap.size := by omega)); (try (have : w.heap.size + 1 < w12.heap.size := by omega)); (try (have : w.heap.size + 1 + 1 < w12.heap.size := by omega)); (try (have : w.heap.size + 1 + 1 + 1 < w12.heap.size := by omega))
        have HOG := Lib.hid OG
        go_wp2_with fail
        refine (HA2.out _ hbw12).mono ?_
        rintro e w13 ⟨A13, c13, rfl, OW, hbw13⟩
        obtain ⟨hzw13, hcw13, hfw13⟩ := bfacts hbw13; (try simp at hzw13 hcw13 hfw13); (try (have : w.heap.size < w13.heap.size := by omega)); (try (have : w.heap.size + 1 < w13.heap.size := by omega)); (try (have : w.heap.size + 1 + 1 < w13.heap.size := by omega)); (try (have : w.heap.size + 1 + 1 + 1 < w13.heap.size := by omega))
        go_wp2_with fail
        refine (rDangers_same _ _ _ _ _ u _ (OG.below hbw13).sl OW.sl hNk).mono ?_
        rintro e w14 ⟨rfl, hbw14⟩
        obtain ⟨hzw14, hcw14, hfw14⟩ := bfacts hbw14; (try simp at hzw14 hcw14 hfw14); (try (have : w.heap.size < w14.heap.size := by omega)); (try (have : w.heap.size + 1 < w14.heap.size := by omega)); (try (have : w.heap.size + 1 + 1 < w14.heap.size := by omega)); (try (have : w.heap.size + 1 + 1 + 1 < w14.heap.size := by omega))
        have HW14 := Lib.hid (show Below w11.heap.size w11 w14 from by repeat' (first | (with_reducible exact Below.refl _ _) | (with_reducible assumption) | (with_reducible refine Below.alloc ?_ ?_ _) | (with_reducible refine Below.drew ?_) | (with_reducible refine Below.setCell ?_ ?_ _) | (with_reducible refine Below.stepB (by assumption) ?_ ?_) | go_size))
        have HG14 := Lib.hid ((HOG.out.below hbw13).below hbw14)
        have HB14 := Lib.hid (HB11.out.trans (HW14.out.mono hz11))
        have hz14 := HB14.out.size
        clear OG OW hbw12 hbw13 hbw14 hcw12 hcw13 hcw14 hfw12 hfw13 hfw14 hzw12 hzw13 hzw14 HOG HA1 HA2
        go_upto_block 2 with fail
        go_cut [27] (fun v27 wx => ∃ i9 : Int, v27 = .int .i64 i9 ∧ Below w14.heap.size w14 wx)
        case first =>
          go_wp2_with fail
          cases okS
          · go_loopw [27] (fun v27 wr => v27 = .int .i64 0 ∧ w14 = wr) (fun _ _ => 0)
            case atStart => exact ⟨rfl, rfl⟩
            case round =>
              obtain ⟨rfl, rfl⟩ := hrel
              have hN0 : ((seeN false k : Nat) : Int) = 0 := rfl
              go_wp2_with fail
              go_meet
              exact ⟨_, rfl, Below.refl _ _⟩
          · have HF := Lib.hid (HSF.out (by first | trivial | rfl))
            have hNe : seeN true k = k := rfl
            rw [hNe] at HG14
            simp only [hNe]
            clear hNe HSF hNk
            go_loopw [27] (fun v27 wr => ∃ i : Nat, i ≤ k ∧ v27 = .int .i64 i ∧ Below w14.heap.size w14 wr) (fun v27 _ => k - (intOf v27).toNat)
            case atStart => exact ⟨0, Nat.zero_le _, rfl, Below.refl _ _⟩
            case round =>
              obtain ⟨i, hi, rfl, hbr⟩ := hrel
              have hzr := hbr.size
              have HBR := Lib.hid hbr
              by_cases hlt : i < k
              · obtain ⟨b', off', rfl, hbl, hbl2, c0, c1, c2, c3, c4, c5, c6, -⟩ := SlDG.at HG14.out.sl hbr hlt
                obtain ⟨b'', off'', e5, hbl', hbl2', d0, d1, d2, d3, d4, d5, d6, -⟩ := HS11.out.at (HW14.out.trans (hbr.mono HW14.out.size)) hlt
                obtain ⟨rfl, rfl⟩ : b11 = b'' ∧ off'' = 0 := by simpa [eq_comm] using e5
                simp only [Nat.zero_add] at d0 d1 d2 d3 d4 d5 d6
                clear e5 hbr
                obtain ⟨hid, hsame, hother⟩ := HF.out i hlt
                by_cases hq : (g i).id = id
                · obtain ⟨hse, hqu⟩ := hsame hq
                  clear hsame hother
                  have e1 : (u i).id = id := hid.trans hq
                  rw [e1] at c0
                  rw [hse] at c6
                  have hnq : decide ((g i).quality < (u i).quality) = false := decide_eq_false (by omega)
                  clear hid hq hse hqu e1 d0 d1 d2 d3 d4 d6 c1 c2 c3 c4
                  go_wp2
                  refine wp_region_later (by kernel_rfl) (by kernel_rfl) (fun hlx => ?_)
                  repeat (go_big_quiet_step (fail))
                  refine wpQuiet_nil ?_
                  clear hlx
                  intro w15 hbw15
                  obtain ⟨hzw15, hcw15, hfw15⟩ := bfacts hbw15; (try simp at hzw15 hcw15 hfw15); (try (have : w.heap.size < w15.heap.size := by omega)); (try (have : w.heap.size + 1 < w15.heap.size := by omega)); (try (have : w.heap.size + 1 + 1 < w15.heap.size := by omega)); (try (have : w.heap.size + 1 + 1 + 1 < w15.heap.size := by omega))
                  go_wp2
                  go_roundw
                  case rel => exact ⟨i + 1, by omega, by go_num, by have := HBR.out; repeat' (first | (with_reducible exact Below.refl _ _) | (with_reducible assumption) | (with_reducible refine Below.alloc ?_ ?_ _) | (with_reducible refine Below.drew ?_) | (with_reducible refine Below.setCell ?_ ?_ _) | (with_reducible refine Below.stepB (by assumption) ?_ ?_) | go_size)⟩
                  case measure => simp [intOf]; omega
                · have hug := hother hq
                  have hqb : ((g i).id == id) = false := by simpa using hq
                  have hqc : ((g i).id != id) = true := by simpa using hq
                  rw [hug] at c0 c1 c2 c3 c4 c5 c6
                  have hgd := dgGuard
                  have heq := fun W => dgEq_run (g i) W
                  clear hid hsame hother hug hq
                  go_wp2
                  refine wp_region_later (by kernel_rfl) (by kernel_rfl) (fun hlx => ?_)
                  repeat (go_big_quiet_step (fail))
                  refine wpQuiet_nil ?_
                  clear hlx
                  intro w15 hbw15
                  obtain ⟨hzw15, hcw15, hfw15⟩ := bfacts hbw15; (try simp at hzw15 hcw15 hfw15); (try (have : w.heap.size < w15.heap.size := by omega)); (try (have : w.heap.size + 1 < w15.heap.size := by omega)); (try (have : w.heap.size + 1 + 1 < w15.heap.size := by omega)); (try (have : w.heap.size + 1 + 1 + 1 < w15.heap.size := by omega))
                  go_wp2
                  go_roundw
                  case rel => exact ⟨i + 1, by omega, by go_num, by have := HBR.out; repeat' (first | (with_reducible exact Below.refl _ _) | (with_reducible assumption) | (with_reducible refine Below.alloc ?_ ?_ _) | (with_reducible refine Below.drew ?_) | (with_reducible refine Below.setCell ?_ ?_ _) | (with_reducible refine Below.stepB (by assumption) ?_ ?_) | go_size)⟩
                  case measure => simp [intOf]; omega
              · obtain rfl : i = k := by omega
                go_wp2_with fail
                go_meet
                exact ⟨_, rfl, hbr⟩
        obtain ⟨i9, rfl, hbc⟩ := hcut
        have HBc := Lib.hid (HB14.out.trans (hbc.mono hz14))
        clear hbc HSF HG14 HB14 HW14 HB11 HS11 HBb hNk
        obtain ⟨wd, rfl⟩ : ∃ x, x = wc := ⟨_, rfl⟩
        have hzd : w.heap.size ≤ wd.heap.size := HBc.out.size
        as_aux_lemma =>
          go_wp2_with fail
          refine (DrawShallowestOf_any n c A B _ HR.out (HS.out.below HBc.out) hn).mono ?_
          rintro e w16 ⟨k2, b16, c16, h, kd, rfl, hk2, hO, hbw16⟩
          have HS16 := Lib.hid (show SlDG w16 (some ⟨b16, 0, none⟩) k2 h from hO.sl)
          clear hO
          have HB16 := Lib.hid (HBc.out.trans (hbw16.mono hzd))
          have hz16 := HB16.out.size
          have hkk2 : k2 ≤ 1048576 := by omega
          have h1 := fun W (hb : Below w16.heap.size w16 W) => ShallowestOf_any (some ⟨b16, 0, none⟩) k2 c16 h kd W (HS16.out.below hb) hkk2
          have h2 := fun W (hb : Below w16.heap.size w16 W) => specShallow_any (some ⟨b16, 0, none⟩) k2 c16 h kd W (HS16.out.below hb) hkk2
          generalize shalId h kd k2 = best at h1 h2
          generalize shalOk h kd k2 = okB at h1 h2
          have HA1 := Lib.hid h1
          have HA2 := Lib.hid h2
          clear h1 h2 hbw16
          go_wp2_with fail
          refine (HA1.out _ (Below.refl _ _)).mono ?_
          rintro e w17 ⟨rfl, hbw17⟩
          obtain ⟨hzw17, hcw17, hfw17⟩ := bfacts hbw17; (try simp at hzw17 hcw17 hfw17); (try (have : w.heap.size < w17.heap.size := by omega)); (try (have : w.heap.size + 1 < w17.heap.size := by omega)); (try (have : w.heap.size + 1 + 1 < w17.heap.size := by omega)); (try (have : w.heap.size + 1 + 1 + 1 < w17.heap.size := by omega))
          go_wp2_with fail
          refine (HA2.out _ hbw17).mono ?_
          rintro e w18 ⟨rfl, hbw18⟩
          obtain ⟨hzw18, hcw18, hfw18⟩ := bfacts hbw18; (try simp at hzw18 hcw18 hfw18); (try (have : w.heap.size < w18.heap.size := by omega)); (try (have : w.heap.size + 1 < w18.heap.size := by omega)); (try (have : w.heap.size + 1 + 1 < w18.heap.size := by omega)); (try (have : w.heap.size + 1 + 1 + 1 < w18.heap.size := by omega))
          have HB18 := Lib.hid (HB16.out.trans ((show Below w16.heap.size w16 w18 from by repeat' (first | (with_reducible exact Below.refl _ _) | (with_reducible assumption) | (with_reducible refine Below.alloc ?_ ?_ _) | (with_reducible refine Below.drew ?_) | (with_reducible refine Below.setCell ?_ ?_ _) | (with_reducible refine Below.stepB (by assumption) ?_ ?_) | go_size)).mono hz16))
          have hz18 := HB18.out.size
          clear HA1 HA2 hbw17 hbw18 hcw17 hcw18 hfw17 hfw18 hzw17 hzw18
          go_wp2_with fail
          refine (DrawDangerText_any n c A B _ HR.out (HS.out.below HB18.out) hn).mono ?_
          rintro e w19 ⟨s, rfl, hbw19⟩
          have HB19 := Lib.hid (HB18.out.trans (hbw19.mono hz18))
          have hz19 := HB19.out.size
          have h1 := fun W (hb : Below w.heap.size w W) => HTX.out s W hb
          have h2 := fun W => specText_any s W
          generalize dgO s = L at h1 h2
          generalize okD s = q at h1 h2
          have HA1 := Lib.hid h1
          have HA2 := Lib.hid h2
          clear h1 h2 hbw19
          have hbw19 := HB19.out
          go_wp2_with fail
          refine (HA1.out _ (by repeat' (first | (with_reducible exact Below.refl _ _) | (with_reducible assumption) | (with_reducible refine Below.alloc ?_ ?_ _) | (with_reducible refine Below.drew ?_) | (with_reducible refine Below.setCell ?_ ?_ _) | (with_reducible refine Below.stepB (by assumption) ?_ ?_) | go_size))).mono ?_
          rintro e w20 ⟨rfl, hbw20⟩
          obtain ⟨hzw20, hcw20, hfw20⟩ := bfacts hbw20; (try simp at hzw20 hcw20 hfw20); (try (have : w.heap.size < w20.heap.size := by omega)); (try (have : w.heap.size + 1 < w20.heap.size := by omega)); (try (have : w.heap.size + 1 + 1 < w20.heap.size := by omega)); (try (have : w.heap.size + 1 + 1 + 1 < w20.heap.size := by omega))
          go_wp2_with fail
          refine (HA2.out _).mono ?_
          rintro e w21 ⟨rfl, hbw21⟩
          obtain ⟨hzw21, hcw21, hfw21⟩ := bfacts hbw21; (try simp at hzw21 hcw21 hfw21); (try (have : w.heap.size < w21.heap.size := by omega)); (try (have : w.heap.size + 1 < w21.heap.size := by omega)); (try (have : w.heap.size + 1 + 1 < w21.heap.size := by omega)); (try (have : w.heap.size + 1 + 1 + 1 < w21.heap.size := by omega))
          cases q <;> (go_wp2; go_ret; exact ⟨rfl, by repeat' (first | (with_reducible exact Below.refl _ _) | (with_reducible assumption) | (with_reducible refine Below.alloc ?_ ?_ _) | (with_reducible refine Below.drew ?_) | (with_reducible refine Below.setCell ?_ ?_ _) | (with_reducible refine Below.stepB (by assumption) ?_ ?_) | go_size)⟩)
  · have hbig : decide (65536 < (n : Int)) = true := decide_eq_true (by omega)
    clear hS hR
    go_enter Tryd.func4, Tryd.ntmps4
    go_wp2_with (go_at_call 8; refine (rBig_any A n c _).mono ?_; rintro e w' ⟨rfl, rfl⟩)
    go_ret
    exact ⟨rfl, Below.refl _ _⟩
end Go.Proofs.YtclcgckledbpfaaDoor
