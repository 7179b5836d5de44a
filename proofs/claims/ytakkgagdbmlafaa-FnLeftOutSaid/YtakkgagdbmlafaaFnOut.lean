/- The law on what can be left out, over the contracts. -/
import Derived.Test.YtakkgagdbmlafaaOutP
import Derived.Test.YtakkgagdbmlafaaHelpV
import Derived.Test.YtakkgagdbmlafaaSelJ
import Derived.Deep.CutBlock
import Derived.Deep.DeepCutAuto
namespace Go.Proofs.Ytakkgagdbmlafaa
open Go.RowKit
/-- the first p of a list without number i -/
def wl (L : Nat → Int) (i p : Nat) : List Int := (List.range p).map (woL L i)
theorem wl_len (L : Nat → Int) (i p : Nat) : (wl L i p).length = p := by simp [wl]
theorem wl_snoc (L : Nat → Int) (i p : Nat) : wl L i (p + 1) = wl L i p ++ [woL L i p] := by simp [wl, List.range_succ]
theorem wl_sl {w : World} {A : Option Addr} {L : Nat → Int} {i p : Nat} (h : SlI w A p (fun q => (wl L i p).getD q 0)) : SlI w A p (woL L i) := fun h0 => by
  obtain ⟨b, off, hA, hb, hc⟩ := h h0
  refine ⟨b, off, hA, hb, fun q j hq hj => ?_⟩
  rw [hc q j hq hj]
  simp [wl, List.getD, hq]
/-- how many of the first k are not number i -/
def cutN (i k : Nat) : Nat := if k ≤ i then k else k - 1
set_option maxRecDepth 100000 in
set_option maxHeartbeats 16000000 in
theorem law_FnLeftOut (n c : Nat) (A : Option Addr) (B : Nat → Int) (w : World) (hR : ∀ i, 0 ≤ B i ∧ B i ≤ 255) (hS : Sl w 1 A n (fun i _ => .int .u8 (B i))) : Calls Try.prog 12 #[.slice A n c] w
    fun e w' => e = .returned (.bool true) ∧ Below w.heap.size w w' := by
  by_cases hn : n ≤ 65536
  · have HS := Lib.hid hS
    have HR := Lib.hid hR
    clear hS hR
    have hbig : decide (65536 < (n : Int)) = false := decide_eq_false (by omega)
    obtain ⟨i0, hi0, hz0, hz1, hz2⟩ := info_parts int1_info
    go_enter Try.func12, Try.ntmps12
    go_wp2_with (go_at_call 21; refine (vBig_any A n c _).mono ?_; rintro e w' ⟨rfl, rfl⟩)
    refine (DrawCanLeaveOut_any n c A B _ HR.out HS.out hn).mono ?_
    rintro e w1 ⟨m, b1, c1, f, m2, a2, c2, L, r, rfl, hm, hm2, hcap, hO, hP, hbw1⟩
    have HS1 := Lib.hid (show SlSD w1 (some ⟨b1, 0, none⟩) m f from hO.sl)
    have HL1 := Lib.hid (show SlI w1 (some ⟨a2, 0, none⟩) m2 L from hP.sl)
    clear hO hP
    have HB1 := Lib.hid hbw1
    have hy1 := hbw1.size
    have hmm : m ≤ 1048576 := by omega
    have h1 := fun W (hb : Below w1.heap.size w1 W) => CanLeaveOut_any (some ⟨b1, 0, none⟩) m c1 f a2 0 m2 c2 L r W (HS1.out.below hb) (HL1.out.below hb) hmm hm2
    have h2 := fun W (hb : Below w1.heap.size w1 W) => specCan_any (some ⟨b1, 0, none⟩) m c1 f a2 0 m2 c2 L r W (HS1.out.below hb) (HL1.out.below hb) hmm hm2 hcap
    have hOl : (cloL f m L m2 r).length ≤ 1048576 := Nat.le_trans (cloL_len f m L m2 r) hm2
    have HF : Hid (safeOut f m L m2 r = true → ∀ i, i < m2 → ∀ (A' : Option Addr) (c' : Nat) W, Below w1.heap.size w1 W → SlI W A' (m2 - 1) (woL L i) →
        Calls Try.prog 28 #[.slice (some ⟨b1, 0, none⟩) m c1, .slice A' (m2 - 1 : Nat) c', .int .i64 r] W (fun e w' => e = .returned (.tuple #[.bool (decide (L i ∈ cloL f m L m2 r)), .bool true]) ∧ Below W.heap.size W w')) := fun h i hi A' c' W hb hs => by
      obtain ⟨l1, l2⟩ := left_facts h i hi
      have k1 := IsSafe_any (some ⟨b1, 0, none⟩) m c1 f A' (m2 - 1) c' (woL L i) r W (HS1.out.below hb) hs hmm (by omega)
      rw [l1, l2] at k1
      exact k1
    generalize safeOut f m L m2 r = ok at h1 h2 HF
    generalize cloL f m L m2 r = OL at h1 h2 HF hOl
    have H1 := Lib.hid h1
    have H2 := Lib.hid h2
    clear h1 h2 hbw1
    go_wp2_with fail
    refine (H1.out _ (Below.refl _ _)).mono ?_
    rintro e w2 ⟨A2, d2, rfl, OG, hbw2⟩
    obtain ⟨hzw2, hcw2, hfw2⟩ := bfacts hbw2; (try simp at hzw2 hcw2 hfw2); (try (have : w.heap.size < w2.heap.size := by omega)); (try (have : w.heap.size + 1 < w2.heap.size := by omega)); (try (have : w.heap.size + 1 + 1 < w2.heap.size := by omega)); (try (have : w.heap.size + 1 + 1 + 1 < w2.heap.size := by omega))
    go_wp2_with fail
    refine (H2.out _ hbw2).mono ?_
    rintro e w3 ⟨A3, d3, rfl, OW, hbw3⟩
    obtain ⟨hzw3, hcw3, hfw3⟩ := bfacts hbw3; (try simp at hzw3 hcw3 hfw3); (try (have : w.heap.size < w3.heap.size := by omega)); (try (have : w.heap.size + 1 < w3.heap.size := by omega)); (try (have : w.heap.size + 1 + 1 < w3.heap.size := by omega)); (try (have : w.heap.size + 1 + 1 + 1 < w3.heap.size := by omega))
    have HOG := Lib.hid OG
    go_wp2_with fail
    refine (vInts_same _ _ _ _ _ _ _ (OG.below hbw3).sl OW.sl hOl).mono ?_
    rintro e w4 ⟨rfl, hbw4⟩
    obtain ⟨hzw4, hcw4, hfw4⟩ := bfacts hbw4; (try simp at hzw4 hcw4 hfw4); (try (have : w.heap.size < w4.heap.size := by omega)); (try (have : w.heap.size + 1 < w4.heap.size := by omega)); (try (have : w.heap.size + 1 + 1 < w4.heap.size := by omega)); (try (have : w.heap.size + 1 + 1 + 1 < w4.heap.size := by omega))
    have HW4 := Lib.hid (show Below w1.heap.size w1 w4 from by repeat' (first | (with_reducible exact Below.refl _ _) | (with_reducible assumption) | (with_reducible refine Below.alloc ?_ ?_ _) | (with_reducible refine Below.drew ?_) | (with_reducible refine Below.setCell ?_ ?_ _) | (with_reducible refine Below.stepB (by assumption) ?_ ?_) | go_size))
    have HG4 := Lib.hid ((HOG.out.below hbw3).below hbw4)
    have HB4 := Lib.hid (HB1.out.trans (HW4.out.mono hy1))
    have hy4 := HB4.out.size
    have hy14 := HW4.out.size
    clear OG OW hbw2 hbw3 hbw4 hcw2 hcw3 hcw4 hfw2 hfw3 hfw4 hzw2 hzw3 hzw4
    go_upto_block 0 with fail
    go_cut [10] (fun v10 wx => ∃ i9 : Int, v10 = .int .i64 i9 ∧ Below w4.heap.size w4 wx)
    case first =>
      go_wp2_with fail
      cases ok
      · go_loopw [10] (fun v10 wr => v10 = .int .i64 0 ∧ w4 = wr) (fun _ _ => 0)
        case atStart => exact ⟨rfl, rfl⟩
        case round =>
          obtain ⟨rfl, rfl⟩ := hrel
          by_cases hm0 : 0 < m2
          · go_wp2_with fail
            go_meet
            exact ⟨_, rfl, Below.refl _ _⟩
          · go_wp2_with fail
            go_meet
            exact ⟨_, rfl, Below.refl _ _⟩
      · have HF2 := Lib.hid (HF.out (by first | trivial | rfl))
        go_loopw [10] (fun v10 wr => ∃ i : Nat, i ≤ m2 ∧ v10 = .int .i64 i ∧ Below w4.heap.size w4 wr) (fun v10 _ => m2 - (intOf v10).toNat)
        case atStart => exact ⟨0, Nat.zero_le _, rfl, Below.refl _ _⟩
        case round =>
          obtain ⟨i, hi, rfl, hbr⟩ := hrel
          have hyr := hbr.size
          have HBR := Lib.hid hbr
          by_cases hlt : i < m2
          · clear hbr
            have hO0 := Lib.hid (ownsRow_empty wr 3 1)
            go_wp2_with fail
            go_loopw [11, 12] (fun v11 v12 wq => ∃ k p b3 c3 : Nat, k ≤ m2 ∧ v12 = .int .i64 k ∧ v11 = .slice (some ⟨b3, 0, none⟩) p c3 ∧ p ≤ 1048576 ∧ Hid (p = cutN i k) ∧ Hid (wq.ownsRow wr.heap.size 3 1 (.slice (some ⟨b3, 0, none⟩) p c3) p ((wl L i p).map (Value.int .i64))) ∧ Below wr.heap.size wr wq) (fun _ v12 _ => m2 - (intOf v12).toNat)
            case atStart => exact ⟨0, 0, _, _, Nat.zero_le _, rfl, rfl, Nat.zero_le _, (show 0 = cutN i 0 from by simp [cutN]), hO0.out, by repeat' (first | (with_reducible exact Below.refl _ _) | (with_reducible assumption) | (with_reducible refine Below.alloc ?_ ?_ _) | (with_reducible refine Below.drew ?_) | (with_reducible refine Below.setCell ?_ ?_ _) | (with_reducible refine Below.stepB (by assumption) ?_ ?_) | go_size)⟩
            case round =>
              rename World => wq
              clear hO0
              obtain ⟨k, p, b3, c3, hk, rfl, rfl, hp, hpk, hOq, hbq⟩ := hrel
              have hzq := hbq.size
              by_cases hkl : k < m2
              · by_cases hki : k = i
                · have hkb : ((k : Int) != (i : Int)) = false := by simp [hki]
                  have HPN : Hid (p = cutN i (k + 1)) := show p = cutN i (k + 1) from by
                    rw [hpk.out]; unfold cutN; rw [if_pos (by omega), if_neg (by omega)]; omega
                  clear hki
                  go_wp2
                  go_roundw
                  case rel => exact ⟨k + 1, p, b3, c3, by omega, by go_num, rfl, hp, HPN, hOq, hbq⟩
                  case measure => simp [intOf]; omega
                · have hkb : ((k : Int) != (i : Int)) = true := by simp; omega
                  have HPN : Hid (p + 1 = cutN i (k + 1) ∧ woL L i p = L k) := show _ ∧ _ from by
                    have h := hpk.out
                    unfold cutN woL at *
                    by_cases hc : k ≤ i
                    · rw [if_pos hc] at h
                      rw [if_pos (by omega), if_pos (by omega), h]
                      exact ⟨rfl, rfl⟩
                    · rw [if_neg hc] at h
                      rw [if_neg (by omega), if_neg (by omega)]
                      exact ⟨by omega, by congr 1; omega⟩
                  have hpm : p < 1048576 := by
                    have h := hpk.out
                    unfold cutN at h
                    split at h <;> omega
                  have hbw : Below w1.heap.size w1 wq := HW4.out.trans ((HBR.out.trans (hbq.mono hyr)).mono hy14)
                  obtain ⟨b', off', e5, hbl, hbl2, y0⟩ := SlI.at HL1.out hbw hkl
                  obtain ⟨rfl, rfl⟩ : a2 = b' ∧ off' = 0 := by simpa [eq_comm] using e5
                  rw [Nat.zero_add] at y0
                  clear e5 hbw hki
                  have hq0 := Lib.hid hbq
                  go_wp2_with (at_builtin; refine wpList_append_int1 _ rfl _ _ 23 rfl wr.heap.size 3 i0 Try.underlying23 hi0 hz0 hz1 hz2 _ _ _ rfl ((hOq.out.alloc _)) _ _ ((L k)) rfl ?_ ?_ ?_ ?_; go_must (focus (simp; done)); go_must (focus omega); go_must (focus (first | omega | (simp; omega) | (simp; done))); intro v9 w5 hOw5 hbw5; have hzw5 := hbw5.size; (try simp at hzw5))
                  obtain ⟨b5, c5, rfl⟩ := ownsRow_pos hOw5 (Nat.succ_pos _)
                  go_roundw
                  case rel => exact ⟨k + 1, p + 1, b5, c5, by omega, by go_num, rfl, by omega, HPN.out.1, (by show World.ownsRow _ _ _ _ _ _ _; rw [wl_snoc, HPN.out.2]; simpa using hOw5), by have := hq0.out; repeat' (first | (with_reducible exact Below.refl _ _) | (with_reducible assumption) | (with_reducible refine Below.alloc ?_ ?_ _) | (with_reducible refine Below.drew ?_) | (with_reducible refine Below.setCell ?_ ?_ _) | (with_reducible refine Below.stepB (by assumption) ?_ ?_) | go_size)⟩
                  case measure => simp [intOf]; omega
              · obtain rfl : k = m2 := by omega
                have hpe : p = k - 1 := by
                  have h := hpk.out
                  unfold cutN at h
                  rw [if_neg (by omega)] at h
                  exact h
                subst hpe
                have HB4q := Lib.hid (HBR.out.trans (hbq.mono hyr))
                have HW1q := Lib.hid (HW4.out.trans (HB4q.out.mono hy14))
                have HSQ := Lib.hid (wl_sl (ownI_of (L := wl L i (k - 1)) (wl_len L i (k - 1)).symm hOq.out).sl : SlI wq (some ⟨b3, 0, none⟩) (k - 1) (woL L i))
                have HCI := Lib.hid (HF2.out i hlt (some ⟨b3, 0, none⟩) c3 wq HW1q.out HSQ.out)
                have HHA := Lib.hid (fun W (hb : Below w4.heap.size w4 W) => vHas_any A2 OL.length d2 OL (L i) W ((HG4.out.below hb).sl) hOl rfl)
                generalize decide (L i ∈ OL) = q at HCI HHA
                have HQ4 := HB4q.out.size
                clear hbq
                go_wp2_with fail
                refine HCI.out.mono ?_
                rintro e w6 ⟨rfl, hbw6⟩
                have HW46 := Lib.hid (HB4q.out.trans (hbw6.mono HQ4))
                have hz46 := HW46.out.size
                have hbw : Below w1.heap.size w1 w6 := HW4.out.trans (HW46.out.mono hy14)
                obtain ⟨b', off', e5, hbl, hbl2, y0⟩ := SlI.at HL1.out hbw hlt
                obtain ⟨rfl, rfl⟩ : a2 = b' ∧ off' = 0 := by simpa [eq_comm] using e5
                rw [Nat.zero_add] at y0
                clear e5 hbw hbw6
                go_wp2_with fail
                refine (HHA.out _ HW46.out).mono ?_
                rintro e w7 ⟨rfl, hbw7⟩
                obtain ⟨hzw7, hcw7, hfw7⟩ := bfacts hbw7; (try simp at hzw7 hcw7 hfw7); (try (have : w.heap.size < w7.heap.size := by omega)); (try (have : w.heap.size + 1 < w7.heap.size := by omega)); (try (have : w.heap.size + 1 + 1 < w7.heap.size := by omega)); (try (have : w.heap.size + 1 + 1 + 1 < w7.heap.size := by omega))
                have HW47 := Lib.hid (HW46.out.trans (hbw7.mono hz46))
                clear hbw7 hcw7 hfw7
                go_wp2
                go_roundw
                case rel => exact ⟨i + 1, by omega, by go_num, HW47.out⟩
                case measure => simp [intOf]; omega
          · obtain rfl : i = m2 := by omega
            go_wp2_with fail
            go_meet
            exact ⟨_, rfl, hbr⟩
    obtain ⟨i9, rfl, hbc⟩ := hcut
    have HBa := Lib.hid (HB4.out.trans (hbc.mono hy4))
    clear hbc HS1 HL1 HF H1 H2 HOG HG4
    as_aux_lemma =>
      have hza : w.heap.size ≤ wc.heap.size := HBa.out.size
      go_wp2_with fail
      refine (DrawLargestRadius_any n c A B _ HR.out (HS.out.below HBa.out) hn).mono ?_
      rintro e w8 ⟨p, b8, c8, g, p2, a8, d8, M, rfl, hp, hp2, hcap2, hO, hP, hbw8⟩
      have HS8 := Lib.hid (show SlSD w8 (some ⟨b8, 0, none⟩) p g from hO.sl)
      have HL8 := Lib.hid (show SlI w8 (some ⟨a8, 0, none⟩) p2 M from hP.sl)
      clear hO hP
      have HB8 := Lib.hid (HBa.out.trans (hbw8.mono hza))
      have hz8 := HB8.out.size
      have hpp : p ≤ 1048576 := by omega
      have h1 := fun W (hb : Below w8.heap.size w8 W) => LargestRadius_any (some ⟨b8, 0, none⟩) p c8 g (some ⟨a8, 0, none⟩) p2 d8 M W (HS8.out.below hb) (HL8.out.below hb) hpp hp2 hcap2
      have h2 := fun W (hb : Below w8.heap.size w8 W) => specLargest_any (some ⟨b8, 0, none⟩) p c8 g (some ⟨a8, 0, none⟩) p2 d8 M W (HS8.out.below hb) (HL8.out.below hb) hpp hp2
      have HX : Hid (radB g p M p2 = true → (1 ≤ radO g p M p2 ∧ radO g p M p2 ≤ 999) ∧ ∀ W, Below w8.heap.size w8 W →
          Calls Try.prog 29 #[.slice (some ⟨b8, 0, none⟩) p c8, .slice (some ⟨a8, 0, none⟩) p2 d8, .int .i64 (radO g p M p2)] W (fun e w' => e = .returned (.tuple #[.bool true, .bool true]) ∧ Below W.heap.size W w') ∧
          Calls Try.prog 29 #[.slice (some ⟨b8, 0, none⟩) p c8, .slice (some ⟨a8, 0, none⟩) p2 d8, .int .i64 (radO g p M p2 + 1)] W (fun e w' => e = .returned (.tuple #[.bool false, .bool true]) ∧ Below W.heap.size W w')) := fun h => by
        obtain ⟨l1, l2, l3, l4, l5, l6⟩ := rad_facts h
        refine ⟨⟨l1, l2⟩, fun W hb => ?_⟩
        have k1 := IsThin_any (some ⟨b8, 0, none⟩) p c8 g (some ⟨a8, 0, none⟩) p2 d8 M (radO g p M p2) W (HS8.out.below hb) (HL8.out.below hb) hpp hp2 hcap2
        have k2 := IsThin_any (some ⟨b8, 0, none⟩) p c8 g (some ⟨a8, 0, none⟩) p2 d8 M (radO g p M p2 + 1) W (HS8.out.below hb) (HL8.out.below hb) hpp hp2 hcap2
        rw [l3, l4] at k1
        rw [l5, l6] at k2
        exact ⟨k1, k2⟩
      generalize radB g p M p2 = okR at h1 h2 HX
      generalize radO g p M p2 = rr at h1 h2 HX
      have H1 := Lib.hid h1
      have H2 := Lib.hid h2
      clear h1 h2 hbw8
      go_wp2_with fail
      refine (H1.out _ (Below.refl _ _)).mono ?_
      rintro e w9 ⟨rfl, hbw9⟩
      obtain ⟨hzw9, hcw9, hfw9⟩ := bfacts hbw9; (try simp at hzw9 hcw9 hfw9); (try (have : w.heap.size < w9.heap.size := by omega)); (try (have : w.heap.size + 1 < w9.heap.size := by omega)); (try (have : w.heap.size + 1 + 1 < w9.heap.size := by omega)); (try (have : w.heap.size + 1 + 1 + 1 < w9.heap.size := by omega))
      go_wp2_with fail
      refine (H2.out _ hbw9).mono ?_
      rintro e w10 ⟨rfl, hbw10⟩
      obtain ⟨hzw10, hcw10, hfw10⟩ := bfacts hbw10; (try simp at hzw10 hcw10 hfw10); (try (have : w.heap.size < w10.heap.size := by omega)); (try (have : w.heap.size + 1 < w10.heap.size := by omega)); (try (have : w.heap.size + 1 + 1 < w10.heap.size := by omega)); (try (have : w.heap.size + 1 + 1 + 1 < w10.heap.size := by omega))
      have HW10 := Lib.hid (show Below w8.heap.size w8 w10 from by repeat' (first | (with_reducible exact Below.refl _ _) | (with_reducible assumption) | (with_reducible refine Below.alloc ?_ ?_ _) | (with_reducible refine Below.drew ?_) | (with_reducible refine Below.setCell ?_ ?_ _) | (with_reducible refine Below.stepB (by assumption) ?_ ?_) | go_size))
      have HB10 := Lib.hid (HB8.out.trans (HW10.out.mono hz8))
      have hz10 := HB10.out.size
      have hz810 := HW10.out.size
      clear hbw9 hbw10 hcw9 hcw10 hfw9 hfw10
      go_upto_if 132 with fail
      go_cut [21, 22, 23, 24] (fun v21 v22 v23 v24 wx => Below w10.heap.size w10 wx)
      case first =>
        cases okR
        · go_wp2_with fail
          go_meet
          exact Below.refl _ _
        · obtain ⟨⟨r1, r2⟩, hx⟩ := HX.out (by first | trivial | rfl)
          have HI1 := Lib.hid (fun W (hb : Below w10.heap.size w10 W) => (hx W (HW10.out.trans (hb.mono hz810))).1)
          have HI2 := Lib.hid (fun W (hb : Below w10.heap.size w10 W) => (hx W (HW10.out.trans (hb.mono hz810))).2)
          clear hx
          go_wp2_with fail
          refine (HI1.out _ (Below.refl _ _)).mono ?_
          rintro e w11 ⟨rfl, hbw11⟩
          obtain ⟨hzw11, hcw11, hfw11⟩ := bfacts hbw11; (try simp at hzw11 hcw11 hfw11); (try (have : w.heap.size < w11.heap.size := by omega)); (try (have : w.heap.size + 1 < w11.heap.size := by omega)); (try (have : w.heap.size + 1 + 1 < w11.heap.size := by omega)); (try (have : w.heap.size + 1 + 1 + 1 < w11.heap.size := by omega))
          go_wp2_with fail
          refine (HI2.out _ hbw11).mono ?_
          rintro e w12 ⟨rfl, hbw12⟩
          obtain ⟨hzw12, hcw12, hfw12⟩ := bfacts hbw12; (try simp at hzw12 hcw12 hfw12); (try (have : w.heap.size < w12.heap.size := by omega)); (try (have : w.heap.size + 1 < w12.heap.size := by omega)); (try (have : w.heap.size + 1 + 1 < w12.heap.size := by omega)); (try (have : w.heap.size + 1 + 1 + 1 < w12.heap.size := by omega))
          have HB12 := Lib.hid (show Below w10.heap.size w10 w12 from by repeat' (first | (with_reducible exact Below.refl _ _) | (with_reducible assumption) | (with_reducible refine Below.alloc ?_ ?_ _) | (with_reducible refine Below.drew ?_) | (with_reducible refine Below.setCell ?_ ?_ _) | (with_reducible refine Below.stepB (by assumption) ?_ ?_) | go_size))
          go_wp2_with fail
          go_meet
          exact HB12.out
      have HBz := Lib.hid (HB10.out.trans (hcut.mono hz10))
      clear hcut HX H1 H2 HS8 HL8
      as_aux_lemma =>
        have hzb : w.heap.size ≤ wc.heap.size := HBz.out.size
        go_wp2_with fail
        refine (DrawDepthsShown_any n c A B _ HR.out (HS.out.below HBz.out) hn).mono ?_
        rintro e w16 ⟨q, b16, c16, u, q2, a16, d16, M, rfl, hq, hq2, hcap3, hO, hP, hbw16⟩
        have HS16 := Lib.hid (show SlSD w16 (some ⟨b16, 0, none⟩) q u from hO.sl)
        have HL16 := Lib.hid (show SlI w16 (some ⟨a16, 0, none⟩) q2 M from hP.sl)
        clear hO hP
        have HB16 := Lib.hid (HBz.out.trans (hbw16.mono hzb))
        have hz16 := HB16.out.size
        have hqq : q ≤ 1048576 := by omega
        have h1 := fun W (hb : Below w16.heap.size w16 W) => DepthsShown_any (some ⟨b16, 0, none⟩) q c16 u (some ⟨a16, 0, none⟩) q2 d16 M W (HS16.out.below hb) (HL16.out.below hb) hqq hq2
        have h2 := fun W (hb : Below w16.heap.size w16 W) => specShown_any (some ⟨b16, 0, none⟩) q c16 u (some ⟨a16, 0, none⟩) q2 d16 M W (HS16.out.below hb) (HL16.out.below hb) hqq hq2
        have HLE := Lib.hid (shown_facts (f := u) (n := q) (L := M) (m := q2))
        have hOl2 : (shownO u q M q2).length ≤ 1048576 := Nat.le_trans (shownO_len u q M q2) hq2
        generalize selB u q M q2 = okD at h1 h2 HLE
        generalize shownO u q M q2 = DL at h1 h2 HLE hOl2
        have H1 := Lib.hid h1
        have H2 := Lib.hid h2
        clear h1 h2 hbw16
        cases okD
        · skip
          go_wp2_with fail
          refine (H1.out _ (Below.refl _ _)).mono ?_
          rintro e w17 ⟨A17, c17, rfl, OG, hbw17⟩
          obtain ⟨hzw17, hcw17, hfw17⟩ := bfacts hbw17; (try simp at hzw17 hcw17 hfw17); (try (have : w.heap.size < w17.heap.size := by omega)); (try (have : w.heap.size + 1 < w17.heap.size := by omega)); (try (have : w.heap.size + 1 + 1 < w17.heap.size := by omega)); (try (have : w.heap.size + 1 + 1 + 1 < w17.heap.size := by omega))
          go_wp2_with fail
          refine (H2.out _ hbw17).mono ?_
          rintro e w18 ⟨A18, c18, rfl, OW, hbw18⟩
          obtain ⟨hzw18, hcw18, hfw18⟩ := bfacts hbw18; (try simp at hzw18 hcw18 hfw18); (try (have : w.heap.size < w18.heap.size := by omega)); (try (have : w.heap.size + 1 < w18.heap.size := by omega)); (try (have : w.heap.size + 1 + 1 < w18.heap.size := by omega)); (try (have : w.heap.size + 1 + 1 + 1 < w18.heap.size := by omega))
          go_wp2_with fail
          refine (vInts_same _ _ _ _ _ _ _ (OG.below hbw18).sl OW.sl hOl2).mono ?_
          rintro e w19 ⟨rfl, hbw19⟩
          obtain ⟨hzw19, hcw19, hfw19⟩ := bfacts hbw19; (try simp at hzw19 hcw19 hfw19); (try (have : w.heap.size < w19.heap.size := by omega)); (try (have : w.heap.size + 1 < w19.heap.size := by omega)); (try (have : w.heap.size + 1 + 1 < w19.heap.size := by omega)); (try (have : w.heap.size + 1 + 1 + 1 < w19.heap.size := by omega))
          have HZ := Lib.hid (show Below w16.heap.size w16 w19 from by repeat' (first | (with_reducible exact Below.refl _ _) | (with_reducible assumption) | (with_reducible refine Below.alloc ?_ ?_ _) | (with_reducible refine Below.drew ?_) | (with_reducible refine Below.setCell ?_ ?_ _) | (with_reducible refine Below.stepB (by assumption) ?_ ?_) | go_size))
          go_wp2
          go_ret
          exact ⟨rfl, HB16.out.trans (HZ.out.mono hz16)⟩
        · have HEQ := Lib.hid (HLE.out (by first | trivial | rfl))
          have hlb : ((DL.length : Int) == (q2 : Int)) = true := by simp [HEQ.out]
          go_wp2_with fail
          refine (H1.out _ (Below.refl _ _)).mono ?_
          rintro e w17 ⟨A17, c17, rfl, OG, hbw17⟩
          obtain ⟨hzw17, hcw17, hfw17⟩ := bfacts hbw17; (try simp at hzw17 hcw17 hfw17); (try (have : w.heap.size < w17.heap.size := by omega)); (try (have : w.heap.size + 1 < w17.heap.size := by omega)); (try (have : w.heap.size + 1 + 1 < w17.heap.size := by omega)); (try (have : w.heap.size + 1 + 1 + 1 < w17.heap.size := by omega))
          go_wp2_with fail
          refine (H2.out _ hbw17).mono ?_
          rintro e w18 ⟨A18, c18, rfl, OW, hbw18⟩
          obtain ⟨hzw18, hcw18, hfw18⟩ := bfacts hbw18; (try simp at hzw18 hcw18 hfw18); (try (have : w.heap.size < w18.heap.size := by omega)); (try (have : w.heap.size + 1 < w18.heap.size := by omega)); (try (have : w.heap.size + 1 + 1 < w18.heap.size := by omega)); (try (have : w.heap.size + 1 + 1 + 1 < w18.heap.size := by omega))
          go_wp2_with fail
          refine (vInts_same _ _ _ _ _ _ _ (OG.below hbw18).sl OW.sl hOl2).mono ?_
          rintro e w19 ⟨rfl, hbw19⟩
          obtain ⟨hzw19, hcw19, hfw19⟩ := bfacts hbw19; (try simp at hzw19 hcw19 hfw19); (try (have : w.heap.size < w19.heap.size := by omega)); (try (have : w.heap.size + 1 < w19.heap.size := by omega)); (try (have : w.heap.size + 1 + 1 < w19.heap.size := by omega)); (try (have : w.heap.size + 1 + 1 + 1 < w19.heap.size := by omega))
          have HZ := Lib.hid (show Below w16.heap.size w16 w19 from by repeat' (first | (with_reducible exact Below.refl _ _) | (with_reducible assumption) | (with_reducible refine Below.alloc ?_ ?_ _) | (with_reducible refine Below.drew ?_) | (with_reducible refine Below.setCell ?_ ?_ _) | (with_reducible refine Below.stepB (by assumption) ?_ ?_) | go_size))
          go_wp2
          go_ret
          exact ⟨by first | rfl | simp [HEQ.out], HB16.out.trans (HZ.out.mono hz16)⟩
  · have hbig : decide (65536 < (n : Int)) = true := decide_eq_true (by omega)
    clear hS hR
    go_enter Try.func12, Try.ntmps12
    go_wp2_with (go_at_call 21; refine (vBig_any A n c _).mono ?_; rintro e w' ⟨rfl, rfl⟩)
    go_ret
    exact ⟨rfl, Below.refl _ _⟩
end Go.Proofs.Ytakkgagdbmlafaa
