/- The law on selections, over the contracts. -/
import Derived.Test.YtakkgagdbmlafaaSelQ
import Derived.Test.YtakkgagdbmlafaaHelpV
import Derived.Test.YtakkgagdbmlafaaFewL
import Derived.Test.YtakkgagdbmlafaaSelF
import Derived.Deep.CutBlock
import Derived.Deep.DeepCutAuto
namespace Go.Proofs.Ytakkgagdbmlafaa
open Go.RowKit
theorem sho_facts {f : Nat → SD} {n : Nat} {r : Int} (h : shoOk f n r = true) : askB f n (fun i => (shoO f n r).getD i 0) (shoO f n r).length r = true ∧ safeOut f n (fun i => (shoO f n r).getD i 0) (shoO f n r).length r = true ∧
    thinOut f n (fun i => (shoO f n r).getD i 0) (shoO f n r).length r = true ∧ fewU f n r (2 ^ n) ≤ (shoO f n r).length := by
  have e : shoO f n r = shoL f n r := by rw [shoO, if_pos h]
  rw [e]
  obtain ⟨h1, h2, h3, h4⟩ := sho_law h
  refine ⟨h1, ?_, ?_, h4⟩
  · rw [safeOut, h1, h2]
    rfl
  · rw [thinOut, h1, h3]
    rfl
theorem few_facts {f : Nat → SD} {n : Nat} {r : Int} (h : fewOk f n r = true) : shoOk f n r = true ∧ fewV f n r ≤ ((shoO f n r).length : Int) := by
  have h1 : shoOk f n r = true ∧ n ≤ 10 := by simpa [fewOk] using h
  refine ⟨h1.1, ?_⟩
  rw [fewV, if_pos h]
  have := (sho_facts h1.1).2.2.2
  omega
theorem open_facts {f : Nat → SD} {n : Nat} {L : Nat → Int} {m : Nat} {r : Int} (h : askB f n L m r = true) : (safeOut f n L m r != (((openO f n L m r).length : Int) == 0)) = false := by
  rw [safeOut, openO, if_pos h, h, len0]
  simp
set_option maxRecDepth 100000 in
set_option maxHeartbeats 4000000 in
theorem law_FnSelections (n c : Nat) (A : Option Addr) (B : Nat → Int) (w : World) (hR : ∀ i, 0 ≤ B i ∧ B i ≤ 255) (hS : Sl w 1 A n (fun i _ => .int .u8 (B i))) : Calls Try.prog 4 #[.slice A n c] w
    fun e w' => e = .returned (.bool true) ∧ Below w.heap.size w w' := by
  by_cases hn : n ≤ 65536
  · have HS := Lib.hid hS
    have HR := Lib.hid hR
    clear hS hR
    have hbig : decide (65536 < (n : Int)) = false := decide_eq_false (by omega)
    go_enter Try.func4, Try.ntmps4
    go_wp2_with (go_at_call 21; refine (vBig_any A n c _).mono ?_; rintro e w' ⟨rfl, rfl⟩)
    refine (DrawSelectShoals_any n c A B _ HR.out HS.out hn).mono ?_
    rintro e w1 ⟨m, b1, c1, f, r, rfl, hm, hO, hbw1⟩
    have HS1 := Lib.hid (show SlSD w1 (some ⟨b1, 0, none⟩) m f from hO.sl)
    clear hO
    have HB1 := Lib.hid hbw1
    have hz1 := hbw1.size
    have hmm : m ≤ 1048576 := by omega
    have h1 := fun W (hb : Below w1.heap.size w1 W) => ShoalsC_any (some ⟨b1, 0, none⟩) m c1 f r W (HS1.out.below hb) hmm
    have h2 := fun W (hb : Below w1.heap.size w1 W) => specShoalsC_any (some ⟨b1, 0, none⟩) m c1 f r W (HS1.out.below hb) hmm
    have h3 := fun W (hb : Below w1.heap.size w1 W) => Fewest_any (some ⟨b1, 0, none⟩) m c1 f r W (HS1.out.below hb) hmm
    have h4 := fun W (hb : Below w1.heap.size w1 W) => specFewest_any (some ⟨b1, 0, none⟩) m c1 f r W (HS1.out.below hb) hmm
    have hSL := shoO_len f m r hmm
    have HF : Hid (shoOk f m r = true → ∀ (A' : Option Addr) (c' : Nat) W, Below w1.heap.size w1 W → SlI W A' (shoO f m r).length (fun i => (shoO f m r).getD i 0) → (shoO f m r).length ≤ c' →
        Calls Try.prog 28 #[.slice (some ⟨b1, 0, none⟩) m c1, .slice A' (shoO f m r).length c', .int .i64 r] W (fun e w' => e = .returned (.tuple #[.bool true, .bool true]) ∧ Below W.heap.size W w') ∧
        Calls Try.prog 29 #[.slice (some ⟨b1, 0, none⟩) m c1, .slice A' (shoO f m r).length c', .int .i64 r] W (fun e w' => e = .returned (.tuple #[.bool true, .bool true]) ∧ Below W.heap.size W w')) := fun h A' c' W hb hs hc => by
      obtain ⟨l1, l2, l3, -⟩ := sho_facts h
      have k1 := IsSafe_any (some ⟨b1, 0, none⟩) m c1 f A' _ c' _ r W (HS1.out.below hb) hs hmm hSL
      have k2 := IsThin_any (some ⟨b1, 0, none⟩) m c1 f A' _ c' _ r W (HS1.out.below hb) hs hmm hSL hc
      rw [l1, l2] at k1
      rw [l1, l3] at k2
      exact ⟨k1, k2⟩
    have HG := Lib.hid (few_facts (f := f) (n := m) (r := r))
    generalize shoOk f m r = okS at h1 h2 HF HG
    generalize shoO f m r = SL at h1 h2 hSL HF HG
    generalize fewOk f m r = okF at h3 h4 HG
    generalize fewV f m r = nf at h3 h4 HG
    have H1 := Lib.hid h1
    have H2 := Lib.hid h2
    have H3 := Lib.hid h3
    have H4 := Lib.hid h4
    clear h1 h2 h3 h4 hbw1
    go_wp2_with fail
    refine (H1.out _ (Below.refl _ _)).mono ?_
    rintro e w2 ⟨A2, c2, rfl, hcap, OG, hbw2⟩
    obtain ⟨hzw2, hcw2, hfw2⟩ := bfacts hbw2; (try simp at hzw2 hcw2 hfw2); (try (have : w.heap.size < w2.heap.size := by omega)); (try (have : w.heap.size + 1 < w2.heap.size := by omega)); (try (have : w.heap.size + 1 + 1 < w2.heap.size := by omega)); (try (have : w.heap.size + 1 + 1 + 1 < w2.heap.size := by omega))
    go_wp2_with fail
    refine (H2.out _ hbw2).mono ?_
    rintro e w3 ⟨A3, c3, rfl, -, OW, hbw3⟩
    obtain ⟨hzw3, hcw3, hfw3⟩ := bfacts hbw3; (try simp at hzw3 hcw3 hfw3); (try (have : w.heap.size < w3.heap.size := by omega)); (try (have : w.heap.size + 1 < w3.heap.size := by omega)); (try (have : w.heap.size + 1 + 1 < w3.heap.size := by omega)); (try (have : w.heap.size + 1 + 1 + 1 < w3.heap.size := by omega))
    have HOG := Lib.hid OG
    go_wp2_with fail
    refine (vInts_same _ _ _ _ _ _ _ (OG.below hbw3).sl OW.sl hSL).mono ?_
    rintro e w4 ⟨rfl, hbw4⟩
    obtain ⟨hzw4, hcw4, hfw4⟩ := bfacts hbw4; (try simp at hzw4 hcw4 hfw4); (try (have : w.heap.size < w4.heap.size := by omega)); (try (have : w.heap.size + 1 < w4.heap.size := by omega)); (try (have : w.heap.size + 1 + 1 < w4.heap.size := by omega)); (try (have : w.heap.size + 1 + 1 + 1 < w4.heap.size := by omega))
    have HW4 := Lib.hid (show Below w1.heap.size w1 w4 from by repeat' (first | (with_reducible exact Below.refl _ _) | (with_reducible assumption) | (with_reducible refine Below.alloc ?_ ?_ _) | (with_reducible refine Below.drew ?_) | (with_reducible refine Below.setCell ?_ ?_ _) | (with_reducible refine Below.stepB (by assumption) ?_ ?_) | go_size))
    have HG4 := Lib.hid ((HOG.out.below hbw3).below hbw4)
    have hz14 := HW4.out.size
    clear OG OW hbw2 hbw3 hbw4 hcw2 hcw3 hcw4 hfw2 hfw3 hfw4
    go_wp2_with fail
    refine (H3.out _ HW4.out).mono ?_
    rintro e w5 ⟨rfl, hbw5⟩
    obtain ⟨hzw5, hcw5, hfw5⟩ := bfacts hbw5; (try simp at hzw5 hcw5 hfw5); (try (have : w.heap.size < w5.heap.size := by omega)); (try (have : w.heap.size + 1 < w5.heap.size := by omega)); (try (have : w.heap.size + 1 + 1 < w5.heap.size := by omega)); (try (have : w.heap.size + 1 + 1 + 1 < w5.heap.size := by omega))
    go_wp2_with fail
    refine (H4.out _ (HW4.out.trans (hbw5.mono hz14))).mono ?_
    rintro e w6 ⟨rfl, hbw6⟩
    obtain ⟨hzw6, hcw6, hfw6⟩ := bfacts hbw6; (try simp at hzw6 hcw6 hfw6); (try (have : w.heap.size < w6.heap.size := by omega)); (try (have : w.heap.size + 1 < w6.heap.size := by omega)); (try (have : w.heap.size + 1 + 1 < w6.heap.size := by omega)); (try (have : w.heap.size + 1 + 1 + 1 < w6.heap.size := by omega))
    have HB46 := Lib.hid (show Below w4.heap.size w4 w6 from by repeat' (first | (with_reducible exact Below.refl _ _) | (with_reducible assumption) | (with_reducible refine Below.alloc ?_ ?_ _) | (with_reducible refine Below.drew ?_) | (with_reducible refine Below.setCell ?_ ?_ _) | (with_reducible refine Below.stepB (by assumption) ?_ ?_) | go_size))
    have HW6 := Lib.hid (HW4.out.trans (HB46.out.mono hz14))
    have HG6 := Lib.hid (HG4.out.below HB46.out)
    have HB6 := Lib.hid (HB1.out.trans (HW6.out.mono hz1))
    have hz6 := HB6.out.size
    have hz16 := HW6.out.size
    clear hbw5 hbw6 hcw5 hcw6 hfw5 hfw6
    go_upto_region 10 with fail
    go_cut [95] (fun v wx => v = .bool false ∧ w6 = wx)
    case first =>
      cases okF
      · go_wp2_with fail
        go_meet
        exact ⟨rfl, rfl⟩
      · obtain ⟨e1, e2⟩ := HG.out (by first | trivial | rfl)
        subst e1
        have e3 : ¬ (SL.length : Int) < nf := by omega
        go_wp2_with fail
        go_meet
        exact ⟨rfl, rfl⟩
    obtain ⟨rfl, rfl⟩ := hcut
    go_upto_if 96 with fail
    go_cut [13, 14, 15, 16] (fun v13 v14 v15 v16 wx => Below w6.heap.size w6 wx)
    case first =>
      cases okS
      · go_wp2_with fail
        go_meet
        exact Below.refl _ _
      · have HH := Lib.hid (fun W (hb : Below w6.heap.size w6 W) => HF.out (by first | trivial | rfl) A2 c2 W (HW6.out.trans (hb.mono hz16)) (HG6.out.below hb).sl hcap)
        have HI1 := Lib.hid (fun W (hb : Below w6.heap.size w6 W) => (HH.out W hb).1)
        have HI2 := Lib.hid (fun W (hb : Below w6.heap.size w6 W) => (HH.out W hb).2)
        go_wp2_with fail
        refine (HI1.out _ (Below.refl _ _)).mono ?_
        rintro e w7 ⟨rfl, hbw7⟩
        obtain ⟨hzw7, hcw7, hfw7⟩ := bfacts hbw7; (try simp at hzw7 hcw7 hfw7); (try (have : w.heap.size < w7.heap.size := by omega)); (try (have : w.heap.size + 1 < w7.heap.size := by omega)); (try (have : w.heap.size + 1 + 1 < w7.heap.size := by omega)); (try (have : w.heap.size + 1 + 1 + 1 < w7.heap.size := by omega))
        go_wp2_with fail
        refine (HI2.out _ hbw7).mono ?_
        rintro e w8 ⟨rfl, hbw8⟩
        obtain ⟨hzw8, hcw8, hfw8⟩ := bfacts hbw8; (try simp at hzw8 hcw8 hfw8); (try (have : w.heap.size < w8.heap.size := by omega)); (try (have : w.heap.size + 1 < w8.heap.size := by omega)); (try (have : w.heap.size + 1 + 1 < w8.heap.size := by omega)); (try (have : w.heap.size + 1 + 1 + 1 < w8.heap.size := by omega))
        have HB8 := Lib.hid (show Below w6.heap.size w6 w8 from by repeat' (first | (with_reducible exact Below.refl _ _) | (with_reducible assumption) | (with_reducible refine Below.alloc ?_ ?_ _) | (with_reducible refine Below.drew ?_) | (with_reducible refine Below.setCell ?_ ?_ _) | (with_reducible refine Below.stepB (by assumption) ?_ ?_) | go_size))
        go_wp2_with fail
        go_meet
        exact HB8.out
    have HBz := Lib.hid (HB6.out.trans (hcut.mono hz6))
    clear hcut HF HG H1 H2 H3 H4 HS1 HOG HG4 HG6
    as_aux_lemma =>
      have hzb : w.heap.size ≤ wc.heap.size := HBz.out.size
      go_wp2_with fail
      refine (DrawNotStoodFor_any n c A B _ HR.out (HS.out.below HBz.out) hn).mono ?_
      rintro e w8 ⟨p, b8, c8, g, p2, A8, d8, L, r2, rfl, hp, hp2, hcap2, hO, hP, hbw8⟩
      have HS8 := Lib.hid (show SlSD w8 (some ⟨b8, 0, none⟩) p g from hO.sl)
      have HL8 := Lib.hid (show SlI w8 A8 p2 L from hP.sl)
      clear hO hP
      have HB8 := Lib.hid (HBz.out.trans (hbw8.mono hzb))
      have hz8 := HB8.out.size
      have hpp : p ≤ 1048576 := by omega
      have h1 := fun W (hb : Below w8.heap.size w8 W) => NotStoodFor_any (some ⟨b8, 0, none⟩) p c8 g A8 p2 d8 L r2 W (HS8.out.below hb) (HL8.out.below hb) hpp hp2
      have h2 := fun W (hb : Below w8.heap.size w8 W) => specNotStood_any (some ⟨b8, 0, none⟩) p c8 g A8 p2 d8 L r2 W (HS8.out.below hb) (HL8.out.below hb) hpp hp2
      have h3 := fun W (hb : Below w8.heap.size w8 W) => IsSelection_any (some ⟨b8, 0, none⟩) p c8 g A8 p2 d8 L W (HS8.out.below hb) (HL8.out.below hb) hpp hp2
      have h4 := fun W (hb : Below w8.heap.size w8 W) => specIsSelection_any (some ⟨b8, 0, none⟩) p c8 g A8 p2 d8 L W (HS8.out.below hb) (HL8.out.below hb) hpp hp2
      have h5 := fun W (hb : Below w8.heap.size w8 W) => IsSafe_any (some ⟨b8, 0, none⟩) p c8 g A8 p2 d8 L r2 W (HS8.out.below hb) (HL8.out.below hb) hpp hp2
      have h6 := fun W (hb : Below w8.heap.size w8 W) => specIsSafe_any (some ⟨b8, 0, none⟩) p c8 g A8 p2 d8 L r2 W (HS8.out.below hb) (HL8.out.below hb) hpp hp2
      have HX := Lib.hid (open_facts (f := g) (n := p) (L := L) (m := p2) (r := r2))
      have hOl : (openO g p L p2 r2).length ≤ 1048576 := Nat.le_trans (openO_len g p L p2 r2) hpp
      generalize askB g p L p2 r2 = okA at h1 h2 h5 h6 HX
      generalize openO g p L p2 r2 = OL at h1 h2 HX hOl
      generalize safeOut g p L p2 r2 = sf at h5 h6 HX
      generalize selB g p L p2 = sb at h3 h4
      have H1 := Lib.hid h1
      have H2 := Lib.hid h2
      have H3 := Lib.hid h3
      have H4 := Lib.hid h4
      have H5 := Lib.hid h5
      have H6 := Lib.hid h6
      clear h1 h2 h3 h4 h5 h6 hbw8
      go_wp2_with fail
      refine (H1.out _ (Below.refl _ _)).mono ?_
      rintro e w9 ⟨A9, c9, rfl, OG, hbw9⟩
      obtain ⟨hzw9, hcw9, hfw9⟩ := bfacts hbw9; (try simp at hzw9 hcw9 hfw9); (try (have : w.heap.size < w9.heap.size := by omega)); (try (have : w.heap.size + 1 < w9.heap.size := by omega)); (try (have : w.heap.size + 1 + 1 < w9.heap.size := by omega)); (try (have : w.heap.size + 1 + 1 + 1 < w9.heap.size := by omega))
      go_wp2_with fail
      refine (H2.out _ hbw9).mono ?_
      rintro e w10 ⟨A10, c10, rfl, OW, hbw10⟩
      obtain ⟨hzw10, hcw10, hfw10⟩ := bfacts hbw10; (try simp at hzw10 hcw10 hfw10); (try (have : w.heap.size < w10.heap.size := by omega)); (try (have : w.heap.size + 1 < w10.heap.size := by omega)); (try (have : w.heap.size + 1 + 1 < w10.heap.size := by omega)); (try (have : w.heap.size + 1 + 1 + 1 < w10.heap.size := by omega))
      go_wp2_with fail
      refine (vInts_same _ _ _ _ _ _ _ (OG.below hbw10).sl OW.sl hOl).mono ?_
      rintro e w11 ⟨rfl, hbw11⟩
      obtain ⟨hzw11, hcw11, hfw11⟩ := bfacts hbw11; (try simp at hzw11 hcw11 hfw11); (try (have : w.heap.size < w11.heap.size := by omega)); (try (have : w.heap.size + 1 < w11.heap.size := by omega)); (try (have : w.heap.size + 1 + 1 < w11.heap.size := by omega)); (try (have : w.heap.size + 1 + 1 + 1 < w11.heap.size := by omega))
      have HW11 := Lib.hid (show Below w8.heap.size w8 w11 from by repeat' (first | (with_reducible exact Below.refl _ _) | (with_reducible assumption) | (with_reducible refine Below.alloc ?_ ?_ _) | (with_reducible refine Below.drew ?_) | (with_reducible refine Below.setCell ?_ ?_ _) | (with_reducible refine Below.stepB (by assumption) ?_ ?_) | go_size))
      have hz11 := HW11.out.size
      clear OG OW hbw9 hbw10 hbw11 hcw9 hcw10 hcw11 hfw9 hfw10 hfw11
      go_wp2_with fail
      refine (H3.out _ HW11.out).mono ?_
      rintro e w12 ⟨rfl, hbw12⟩
      obtain ⟨hzw12, hcw12, hfw12⟩ := bfacts hbw12; (try simp at hzw12 hcw12 hfw12); (try (have : w.heap.size < w12.heap.size := by omega)); (try (have : w.heap.size + 1 < w12.heap.size := by omega)); (try (have : w.heap.size + 1 + 1 < w12.heap.size := by omega)); (try (have : w.heap.size + 1 + 1 + 1 < w12.heap.size := by omega))
      have HW12 := Lib.hid (HW11.out.trans (hbw12.mono hz11))
      have hz12 := HW12.out.size
      go_wp2_with fail
      refine (H4.out _ HW12.out).mono ?_
      rintro e w13 ⟨rfl, hbw13⟩
      obtain ⟨hzw13, hcw13, hfw13⟩ := bfacts hbw13; (try simp at hzw13 hcw13 hfw13); (try (have : w.heap.size < w13.heap.size := by omega)); (try (have : w.heap.size + 1 < w13.heap.size := by omega)); (try (have : w.heap.size + 1 + 1 < w13.heap.size := by omega)); (try (have : w.heap.size + 1 + 1 + 1 < w13.heap.size := by omega))
      have HW13 := Lib.hid (HW12.out.trans (hbw13.mono hz12))
      have hz13 := HW13.out.size
      clear hbw12 hbw13 hcw12 hcw13 hfw12 hfw13
      go_wp2_with fail
      refine (H5.out _ HW13.out).mono ?_
      rintro e w14 ⟨rfl, hbw14⟩
      obtain ⟨hzw14, hcw14, hfw14⟩ := bfacts hbw14; (try simp at hzw14 hcw14 hfw14); (try (have : w.heap.size < w14.heap.size := by omega)); (try (have : w.heap.size + 1 < w14.heap.size := by omega)); (try (have : w.heap.size + 1 + 1 < w14.heap.size := by omega)); (try (have : w.heap.size + 1 + 1 + 1 < w14.heap.size := by omega))
      have HW14 := Lib.hid (HW13.out.trans (hbw14.mono hz13))
      have hz14' := HW14.out.size
      go_wp2_with fail
      refine (H6.out _ HW14.out).mono ?_
      rintro e w15 ⟨rfl, hbw15⟩
      obtain ⟨hzw15, hcw15, hfw15⟩ := bfacts hbw15; (try simp at hzw15 hcw15 hfw15); (try (have : w.heap.size < w15.heap.size := by omega)); (try (have : w.heap.size + 1 < w15.heap.size := by omega)); (try (have : w.heap.size + 1 + 1 < w15.heap.size := by omega)); (try (have : w.heap.size + 1 + 1 + 1 < w15.heap.size := by omega))
      have HW15 := Lib.hid (HW14.out.trans (hbw15.mono hz14'))
      have HB15 := Lib.hid (HB8.out.trans (HW15.out.mono hz8))
      have hz15 := HB15.out.size
      clear hbw14 hbw15 hcw14 hcw15 hfw14 hfw15
      go_upto_region 24 with fail
      go_cut [199] (fun v wx => v = .bool false ∧ w15 = wx)
      case first =>
        cases okA
        · go_wp2_with fail
          go_meet
          exact ⟨rfl, rfl⟩
        · have hx : (!(sf == ((OL.length : Int) == 0))) = false := by
            have hx := HX.out (by first | trivial | rfl)
            revert hx
            generalize ((OL.length : Int) == 0) = z
            cases sf <;> cases z <;> decide
          have HQ := Lib.hid hx
          clear hx
          go_wp2_with fail
          go_meet
          exact ⟨congrArg Value.bool HQ.out, rfl⟩
      obtain ⟨rfl, rfl⟩ := hcut
      clear HX H1 H2 H3 H4 H5 H6 HS8 HL8
      as_aux_lemma =>
        go_wp2_with fail
        refine (DrawIsThin_any n c A B _ HR.out (HS.out.below HB15.out) hn).mono ?_
        rintro e w16 ⟨q, b16, c16, u, q2, A16, d16, M, r3, rfl, hq, hq2, hcap3, hO, hP, hbw16⟩
        have HS16 := Lib.hid (show SlSD w16 (some ⟨b16, 0, none⟩) q u from hO.sl)
        have HL16 := Lib.hid (show SlI w16 A16 q2 M from hP.sl)
        clear hO hP
        have HB16 := Lib.hid (HB15.out.trans (hbw16.mono hz15))
        have hz16 := HB16.out.size
        have hqq : q ≤ 1048576 := by omega
        have h1 := fun W (hb : Below w16.heap.size w16 W) => IsThin_any (some ⟨b16, 0, none⟩) q c16 u A16 q2 d16 M r3 W (HS16.out.below hb) (HL16.out.below hb) hqq hq2 hcap3
        have h2 := fun W (hb : Below w16.heap.size w16 W) => specIsThin_any (some ⟨b16, 0, none⟩) q c16 u A16 q2 d16 M r3 W (HS16.out.below hb) (HL16.out.below hb) hqq hq2
        generalize askB u q M q2 r3 = okA at h1 h2
        generalize thinOut u q M q2 r3 = th at h1 h2
        have H1 := Lib.hid h1
        have H2 := Lib.hid h2
        clear h1 h2 hbw16
        go_wp2_with fail
        refine (H1.out _ (Below.refl _ _)).mono ?_
        rintro e w17 ⟨rfl, hbw17⟩
        obtain ⟨hzw17, hcw17, hfw17⟩ := bfacts hbw17; (try simp at hzw17 hcw17 hfw17); (try (have : w.heap.size < w17.heap.size := by omega)); (try (have : w.heap.size + 1 < w17.heap.size := by omega)); (try (have : w.heap.size + 1 + 1 < w17.heap.size := by omega)); (try (have : w.heap.size + 1 + 1 + 1 < w17.heap.size := by omega))
        go_wp2_with fail
        refine (H2.out _ hbw17).mono ?_
        rintro e w18 ⟨rfl, hbw18⟩
        obtain ⟨hzw18, hcw18, hfw18⟩ := bfacts hbw18; (try simp at hzw18 hcw18 hfw18); (try (have : w.heap.size < w18.heap.size := by omega)); (try (have : w.heap.size + 1 < w18.heap.size := by omega)); (try (have : w.heap.size + 1 + 1 < w18.heap.size := by omega)); (try (have : w.heap.size + 1 + 1 + 1 < w18.heap.size := by omega))
        have hb := HB16.out
        go_wp2
        go_ret
        refine ⟨rfl, ?_⟩
        repeat' (first | (with_reducible exact Below.refl _ _) | (with_reducible assumption) | (with_reducible refine Below.alloc ?_ ?_ _) | (with_reducible refine Below.drew ?_) | (with_reducible refine Below.setCell ?_ ?_ _) | (with_reducible refine Below.stepB (by assumption) ?_ ?_) | go_size)
  · have hbig : decide (65536 < (n : Int)) = true := decide_eq_true (by omega)
    clear hS hR
    go_enter Try.func4, Try.ntmps4
    go_wp2_with (go_at_call 21; refine (vBig_any A n c _).mono ?_; rintro e w' ⟨rfl, rfl⟩)
    go_ret
    exact ⟨rfl, Below.refl _ _⟩
end Go.Proofs.Ytakkgagdbmlafaa
