/- The law on live edits: as many live steps as the soundings have reasons; soundings never touched; over the contracts. -/
import Derived.Test.YtbgpmbaonjehbaaEdR
import Derived.Test.YtbgpmbaonjehbaaEdS
import Derived.Test.YtbgpmbaonjehbaaEdN
import Derived.Deep.CutBlock
import Derived.Deep.DeepCutAuto
namespace Go.Proofs.Ytbgpmbaonjehbaa
open Go.RowKit
theorem untL_all {f : Nat → ES} {L : List Nat} {q k : Nat} (h : q < k) : decide ((q : Int) ∈ untL f L k) = decide (reaL f L q = []) := by
  rw [decide_eq_decide]
  exact untL_mem h
theorem reaSum_le (f : Nat → ES) (L : List Nat) (q : Nat) : reaSum f L q ≤ L.length := by
  rw [reaSum_eq]
  exact List.length_filter_le _ _
/-- what the law asks of a sounding: its reasons' number, whether it is accepted, its shift -/
structure MarkOk (f : Nat → ES) (L : List Nat) (M i r : Nat) (a : Bool) (s : Int) (u : Bool) : Prop where
  rea : (reaL f L i).length = r
  acc : accV f L i = a
  shf : shiftV f L i = s
  unt : decide ((i : Int) ∈ untL f L M) = u
  rej : rejN f L (i + 1) = if a = true then rejN f L i else rejN f L i + 1
  sum : reaSum f L (i + 1) = reaSum f L i + r
  bnd : reaSum f L i + r ≤ L.length
theorem markOk {f : Nat → ES} {L : List Nat} {M i : Nat} (hi : i < M) : MarkOk f L M i (reaL f L i).length (accV f L i) (shiftV f L i) (decide (reaL f L i = [])) :=
  ⟨rfl, rfl, rfl, untL_all hi, rfl, rfl, reaSum_le f L (i + 1)⟩
set_option maxRecDepth 100000 in
set_option maxHeartbeats 16000000 in
theorem law_FnLiveEdits (n c : Nat) (A : Option Addr) (B : Nat → Int) (w : World) (hR : ∀ i, 0 ≤ B i ∧ B i ≤ 255) (hS : Sl w 1 A n (fun i _ => .int .u8 (B i))) : Calls Try.prog 4 #[.slice A n c] w
    fun e w' => e = .returned (.bool true) ∧ Below w.heap.size w w' := by
  by_cases hn : n ≤ 65536
  · have HS := Lib.hid hS
    have HR := Lib.hid hR
    clear hS hR
    have hbig : decide (65536 < (n : Int)) = false := decide_eq_false (by omega)
    go_enter Try.func4, Try.ntmps4
    go_wp2_with (go_at_call 5; refine (rBig_any A n c _).mono ?_; rintro e w' ⟨rfl, rfl⟩)
    refine (DrawLiveSteps_any n c A B _ HR.out HS.out hn).mono ?_
    rintro e w1 ⟨marks, m, b1, c1, f, rfl, hm, hmc, hO, hbw1⟩
    have HS1 := Lib.hid (show SlES w1 (some ⟨b1, 0, none⟩) m f from hO.sl)
    have HB1 := Lib.hid hbw1
    have hz1 := hbw1.size
    clear hO hbw1
    have h1 := fun W (hb : Below w1.heap.size w1 W) => LiveSteps_any marks (some ⟨b1, 0, none⟩) m c1 f W (HS1.out.below hb) (by omega)
    have h2 := fun W (hb : Below w1.heap.size w1 W) => specLive_any marks b1 0 m c1 f W (HS1.out.below hb) hmc (by omega)
    have h3 := fun W (hb : Below w1.heap.size w1 W) => NeverTouched_any marks (some ⟨b1, 0, none⟩) m c1 f W (HS1.out.below hb) (by omega)
    have h4 := fun W (hb : Below w1.heap.size w1 W) => specNever_any marks b1 0 m c1 f W (HS1.out.below hb) hmc (by omega)
    have h5 := fun W (hb : Below w1.heap.size w1 W) => RejectedCount_any marks (some ⟨b1, 0, none⟩) m c1 f W (HS1.out.below hb) (by omega)
    have h6 := fun W (hb : Below w1.heap.size w1 W) => specRejected_any marks b1 0 m c1 f W (HS1.out.below hb) hmc (by omega)
    obtain ⟨okA, hokA⟩ : ∃ q, q = goodEd marks f m := ⟨_, rfl⟩
    obtain ⟨cl, hcl⟩ : ∃ q, q = cntN okA (liveN f m).length := ⟨_, rfl⟩
    obtain ⟨cu, hcu⟩ : ∃ q, q = cntN okA (untL f (liveN f m) marks.toNat).length := ⟨_, rfl⟩
    obtain ⟨cr, hcr⟩ : ∃ q, q = cntN okA (rejN f (liveN f m) marks.toNat) := ⟨_, rfl⟩
    rw [← hokA, ← hcl] at h1 h2
    rw [← hokA, ← hcu] at h3 h4
    rw [← hokA, ← hcr] at h5 h6
    have hl1 : cl ≤ 21 := by have := cntN_le okA (liveN f m).length; have := liveN_len f m; omega
    have hl2 : cu ≤ 15 := by
      rcases Bool.eq_false_or_eq_true (goodEd marks f m) with hg | hg
      · have := (goodEd_bd hg).1.2
        have := cntN_le okA (untL f (liveN f m) marks.toNat).length
        have := untL_len f (liveN f m) marks.toNat
        omega
      · rw [hcu, hokA, cntN_f hg]
        omega
    have HGA := Lib.hid hokA
    have HCL := Lib.hid hcl
    have HCU := Lib.hid hcu
    have HCR := Lib.hid hcr
    have HA1 := Lib.hid h1
    have HA2 := Lib.hid h2
    have HA3 := Lib.hid h3
    have HA4 := Lib.hid h4
    have HA5 := Lib.hid h5
    have HA6 := Lib.hid h6
    clear h1 h2 h3 h4 h5 h6 hokA hcl hcu hcr
    go_wp2_with fail
    refine (HA1.out _ (Below.refl _ _)).mono ?_
    rintro e w2 ⟨A2, c2, rfl, hO2, hbw2⟩
    obtain ⟨hzw2, hcw2, hfw2⟩ := bfacts hbw2; (try simp at hzw2 hcw2 hfw2); (try (have : w.heap.size < w2.heap.size := by omega)); (try (have : w.heap.size + 1 < w2.heap.size := by omega)); (try (have : w.heap.size + 1 + 1 < w2.heap.size := by omega)); (try (have : w.heap.size + 1 + 1 + 1 < w2.heap.size := by omega))
    have HO2 := Lib.hid hO2
    clear hO2 HA1
    go_wp2_with fail
    refine (HA2.out _ (by repeat' (first | (with_reducible exact Below.refl _ _) | (with_reducible assumption) | (with_reducible refine Below.alloc ?_ ?_ _) | (with_reducible refine Below.drew ?_) | (with_reducible refine Below.setCell ?_ ?_ _) | (with_reducible refine Below.stepB (by assumption) ?_ ?_) | go_size))).mono ?_
    rintro e w3 ⟨A3, c3, rfl, hO3, hbw3⟩
    obtain ⟨hzw3, hcw3, hfw3⟩ := bfacts hbw3; (try simp at hzw3 hcw3 hfw3); (try (have : w.heap.size < w3.heap.size := by omega)); (try (have : w.heap.size + 1 < w3.heap.size := by omega)); (try (have : w.heap.size + 1 + 1 < w3.heap.size := by omega)); (try (have : w.heap.size + 1 + 1 + 1 < w3.heap.size := by omega))
    go_wp2_with fail
    refine (rInts_same _ _ _ _ _ (natV (liveN f m)) _ (Own.sl (HO2.out.below hbw3)) hO3.sl (by omega)).mono ?_
    rintro e w4 ⟨rfl, hbw4⟩
    obtain ⟨hzw4, hcw4, hfw4⟩ := bfacts hbw4; (try simp at hzw4 hcw4 hfw4); (try (have : w.heap.size < w4.heap.size := by omega)); (try (have : w.heap.size + 1 < w4.heap.size := by omega)); (try (have : w.heap.size + 1 + 1 < w4.heap.size := by omega)); (try (have : w.heap.size + 1 + 1 + 1 < w4.heap.size := by omega))
    clear hO3 HA2
    go_wp2_with fail
    refine (HA3.out _ (by repeat' (first | (with_reducible exact Below.refl _ _) | (with_reducible assumption) | (with_reducible refine Below.alloc ?_ ?_ _) | (with_reducible refine Below.drew ?_) | (with_reducible refine Below.setCell ?_ ?_ _) | (with_reducible refine Below.stepB (by assumption) ?_ ?_) | go_size))).mono ?_
    rintro e w5 ⟨A5, c5, rfl, hO5, hbw5⟩
    obtain ⟨hzw5, hcw5, hfw5⟩ := bfacts hbw5; (try simp at hzw5 hcw5 hfw5); (try (have : w.heap.size < w5.heap.size := by omega)); (try (have : w.heap.size + 1 < w5.heap.size := by omega)); (try (have : w.heap.size + 1 + 1 < w5.heap.size := by omega)); (try (have : w.heap.size + 1 + 1 + 1 < w5.heap.size := by omega))
    have HO5 := Lib.hid hO5
    clear hO5 HA3
    go_wp2_with fail
    refine (HA4.out _ (by repeat' (first | (with_reducible exact Below.refl _ _) | (with_reducible assumption) | (with_reducible refine Below.alloc ?_ ?_ _) | (with_reducible refine Below.drew ?_) | (with_reducible refine Below.setCell ?_ ?_ _) | (with_reducible refine Below.stepB (by assumption) ?_ ?_) | go_size))).mono ?_
    rintro e w6 ⟨A6, c6, rfl, hO6, hbw6⟩
    obtain ⟨hzw6, hcw6, hfw6⟩ := bfacts hbw6; (try simp at hzw6 hcw6 hfw6); (try (have : w.heap.size < w6.heap.size := by omega)); (try (have : w.heap.size + 1 < w6.heap.size := by omega)); (try (have : w.heap.size + 1 + 1 < w6.heap.size := by omega)); (try (have : w.heap.size + 1 + 1 + 1 < w6.heap.size := by omega))
    go_wp2_with fail
    refine (rInts_same _ _ _ _ _ (fun i => (untL f (liveN f m) marks.toNat).getD i 0) _ (Own.sl (HO5.out.below hbw6)) hO6.sl (by omega)).mono ?_
    rintro e w7 ⟨rfl, hbw7⟩
    obtain ⟨hzw7, hcw7, hfw7⟩ := bfacts hbw7; (try simp at hzw7 hcw7 hfw7); (try (have : w.heap.size < w7.heap.size := by omega)); (try (have : w.heap.size + 1 < w7.heap.size := by omega)); (try (have : w.heap.size + 1 + 1 < w7.heap.size := by omega)); (try (have : w.heap.size + 1 + 1 + 1 < w7.heap.size := by omega))
    clear hO6 HA4
    go_wp2_with fail
    refine (HA5.out _ (by repeat' (first | (with_reducible exact Below.refl _ _) | (with_reducible assumption) | (with_reducible refine Below.alloc ?_ ?_ _) | (with_reducible refine Below.drew ?_) | (with_reducible refine Below.setCell ?_ ?_ _) | (with_reducible refine Below.stepB (by assumption) ?_ ?_) | go_size))).mono ?_
    rintro e w8 ⟨rfl, hbw8⟩
    obtain ⟨hzw8, hcw8, hfw8⟩ := bfacts hbw8; (try simp at hzw8 hcw8 hfw8); (try (have : w.heap.size < w8.heap.size := by omega)); (try (have : w.heap.size + 1 < w8.heap.size := by omega)); (try (have : w.heap.size + 1 + 1 < w8.heap.size := by omega)); (try (have : w.heap.size + 1 + 1 + 1 < w8.heap.size := by omega))
    go_wp2_with fail
    refine (HA6.out _ (by repeat' (first | (with_reducible exact Below.refl _ _) | (with_reducible assumption) | (with_reducible refine Below.alloc ?_ ?_ _) | (with_reducible refine Below.drew ?_) | (with_reducible refine Below.setCell ?_ ?_ _) | (with_reducible refine Below.stepB (by assumption) ?_ ?_) | go_size))).mono ?_
    rintro e w9 ⟨rfl, hbw9⟩
    obtain ⟨hzw9, hcw9, hfw9⟩ := bfacts hbw9; (try simp at hzw9 hcw9 hfw9); (try (have : w.heap.size < w9.heap.size := by omega)); (try (have : w.heap.size + 1 < w9.heap.size := by omega)); (try (have : w.heap.size + 1 + 1 < w9.heap.size := by omega)); (try (have : w.heap.size + 1 + 1 + 1 < w9.heap.size := by omega))
    have HW9 := Lib.hid (show Below w1.heap.size w1 w9 from by repeat' (first | (with_reducible exact Below.refl _ _) | (with_reducible assumption) | (with_reducible refine Below.alloc ?_ ?_ _) | (with_reducible refine Below.drew ?_) | (with_reducible refine Below.setCell ?_ ?_ _) | (with_reducible refine Below.stepB (by assumption) ?_ ?_) | go_size))
    have HO9 := Lib.hid ((((HO5.out.below hbw6).below hbw7).below hbw8).below hbw9)
    have HB9 := Lib.hid (HB1.out.trans (HW9.out.mono hz1))
    have hz9 := HB9.out.size
    have hz19 := HW9.out.size
    clear HO2 HO5 HA5 HA6 hbw2 hbw3 hbw4 hbw5 hbw6 hbw7 hbw8 hbw9 hcw2 hcw3 hcw4 hcw5 hcw6 hcw7 hcw8 hcw9 hfw2 hfw3 hfw4 hfw5 hfw6 hfw7 hfw8 hfw9 hzw2 hzw3 hzw4 hzw5 hzw6 hzw7 hzw8 hzw9
    go_upto_if 112 with fail
    go_cut [17] (fun v17 wx => Below w9.heap.size w9 wx)
    case first =>
      cases okA
      · go_wp2_with fail
        go_meet
        exact Below.refl _ _
      · have hgood : goodEd marks f m = true := HGA.out.symm
        obtain ⟨⟨hM1, hM15⟩, hm20, hgE⟩ := goodEd_bd hgood
        obtain ⟨M, rfl⟩ : ∃ M : Nat, marks = M := ⟨marks.toNat, by omega⟩
        have h7 : ∀ W, Below w9.heap.size w9 W → Calls Try.prog 10 #[.int .i64 (M : Int), .slice (some ⟨b1, 0, none⟩) m c1] W fun e w' => VOut W M (fun i => .bool (accV f (liveN f m) i)) true e w' := fun W hb => by
          have h := AcceptedAfter_any (M : Int) (some ⟨b1, 0, none⟩) m c1 f W (HS1.out.below (HW9.out.trans (hb.mono hz19))) (by omega)
          rw [hgood] at h
          exact h
        have h8 : ∀ W, Below w9.heap.size w9 W → Calls Try.prog 11 #[.int .i64 (M : Int), .slice (some ⟨b1, 0, none⟩) m c1] W fun e w' => VOut W M (fun i => .int .i64 (shiftV f (liveN f m) i)) true e w' := fun W hb => by
          have h := ShiftsAfter_any (M : Int) (some ⟨b1, 0, none⟩) m c1 f W (HS1.out.below (HW9.out.trans (hb.mono hz19))) (by omega)
          rw [hgood] at h
          exact h
        have h9 : ∀ i, i < M → ∀ W, Below w9.heap.size w9 W → Calls Try.prog 29 #[.int .i64 (M : Int), .slice (some ⟨b1, 0, none⟩) m c1, .int .i64 (i : Int)] W fun e w' => ∃ A c', e = .returned (.tuple #[.slice A (reaL f (liveN f m) i).length c', .bool true]) ∧ Below W.heap.size W w' := fun i hi W hb =>
          (ReasonsFor_any M (some ⟨b1, 0, none⟩) m c1 f i W (HS1.out.below (HW9.out.trans (hb.mono hz19))) (by omega)).mono fun e w' ⟨A, c', h1, _, h3⟩ => by
            have ho : reaOk M f m i = true := by rw [reaOk, hgood, inB_true (by omega) (by omega)]; rfl
            rw [ho, cntN_t rfl] at h1
            exact ⟨A, c', h1, h3⟩
        have HOU := Lib.hid (show SlI w9 A5 (untL f (liveN f m) M).length (fun i => (untL f (liveN f m) M).getD i 0) from by
          have h := HO9.out.sl
          rw [HCU.out] at h
          exact h)
        have HLU : Hid (cu = (untL f (liveN f m) M).length) := HCU.out
        have h10 : ∀ (i : Nat) W, Below w9.heap.size w9 W → Calls Try.prog 30 #[.slice A5 cu c5, .int .i64 (i : Int)] W fun e w' => e = .returned (.bool (decide ((i : Int) ∈ untL f (liveN f m) M))) ∧ Below W.heap.size W w' := fun i W hb =>
          rHas_any A5 cu c5 (untL f (liveN f m) M) i W (HOU.out.below hb) (by have := untL_len f (liveN f m) M; omega) HLU.out
        have HA7 := Lib.hid h7
        have HA8 := Lib.hid h8
        have HA9 := Lib.hid h9
        have HA10 := Lib.hid h10
        have HSU := Lib.hid (reaSum_all (marks := M) hgE)
        have hL : (liveN f m).length ≤ 20 := by have := liveN_len f m; omega
        have HRL := Lib.hid (show cl = (liveN f m).length from HCL.out)
        have HRR := Lib.hid (show cr = rejN f (liveN f m) M from HCR.out)
        have HMK := Lib.hid (fun i (h : i < M) => markOk (f := f) (L := liveN f m) h)
        have HNIL := Lib.hid (fun i (h : reaL f (liveN f m) i = []) => And.intro (acc_none h) (shift_none h))
        have hrb := rejN_le f (liveN f m)
        clear h7 h8 h9 h10 hgood hgE HCL HCU HCR HGA
        go_wp2_with fail
        refine (HA7.out _ (Below.refl _ _)).mono ?_
        rintro e wa ⟨Aa, ca, rfl, hOa, hbwa⟩
        obtain ⟨hzwa, hcwa, hfwa⟩ := bfacts hbwa; (try simp at hzwa hcwa hfwa); (try (have : w.heap.size < wa.heap.size := by omega)); (try (have : w.heap.size + 1 < wa.heap.size := by omega)); (try (have : w.heap.size + 1 + 1 < wa.heap.size := by omega)); (try (have : w.heap.size + 1 + 1 + 1 < wa.heap.size := by omega))
        have HOa := Lib.hid hOa
        clear hOa HA7
        go_wp2_with fail
        refine (HA8.out _ (by repeat' (first | (with_reducible exact Below.refl _ _) | (with_reducible assumption) | (with_reducible refine Below.alloc ?_ ?_ _) | (with_reducible refine Below.drew ?_) | (with_reducible refine Below.setCell ?_ ?_ _) | (with_reducible refine Below.stepB (by assumption) ?_ ?_) | go_size))).mono ?_
        rintro e wb ⟨Ab, cb, rfl, hOb, hbwb⟩
        obtain ⟨hzwb, hcwb, hfwb⟩ := bfacts hbwb; (try simp at hzwb hcwb hfwb); (try (have : w.heap.size < wb.heap.size := by omega)); (try (have : w.heap.size + 1 < wb.heap.size := by omega)); (try (have : w.heap.size + 1 + 1 < wb.heap.size := by omega)); (try (have : w.heap.size + 1 + 1 + 1 < wb.heap.size := by omega))
        have HOb := Lib.hid (show SlI wb Ab M (fun i => shiftV f (liveN f m) i) from hOb.sl)
        have HOc := Lib.hid (show SlB wb Aa M (fun i => accV f (liveN f m) i) from (HOa.out.below hbwb).sl)
        have HBb := Lib.hid (show Below w9.heap.size w9 wb from by repeat' (first | (with_reducible exact Below.refl _ _) | (with_reducible assumption) | (with_reducible refine Below.alloc ?_ ?_ _) | (with_reducible refine Below.drew ?_) | (with_reducible refine Below.setCell ?_ ?_ _) | (with_reducible refine Below.stepB (by assumption) ?_ ?_) | go_size))
        have hzb := HBb.out.size
        clear hOb HA8 HOa hbwa hbwb hcwa hcwb hfwa hfwb hzwa hzwb
        go_wp2_with fail
        go_loopw [21, 22, 23] (fun v21 v22 v23 wr => ∃ i : Nat, i ≤ M ∧ v23 = .int .i64 i ∧ v21 = .int .i64 (rejN f (liveN f m) i : Nat) ∧ v22 = .int .i64 (reaSum f (liveN f m) i : Nat) ∧ Below wb.heap.size wb wr) (fun _ _ v23 _ => M - (intOf v23).toNat)
        case atStart => exact ⟨0, Nat.zero_le _, rfl, rfl, rfl, Below.refl _ _⟩
        case round =>
          obtain ⟨i, hi, rfl, rfl, rfl, hbr⟩ := hrel
          have hzr := hbr.size
          by_cases hlt : i < M
          · obtain ⟨ba, oa, rfl, hba, hba2, ca0⟩ := HOc.out.at hbr hlt
            obtain ⟨bb, ob, rfl, hbb, hbb2, cb0⟩ := SlI.at HOb.out hbr hlt
            have HB9r := Lib.hid (HBb.out.trans (hbr.mono hzb))
            have hf := fun W (hb : Below wr.heap.size wr W) => HA9.out i hlt W (HB9r.out.trans (hb.mono HB9r.out.size))
            have hh := fun W (hb : Below wr.heap.size wr W) => HA10.out i W (HB9r.out.trans (hb.mono HB9r.out.size))
            have hmk := HMK.out i hlt
            have hrr := hrb i
            by_cases h0 : reaL f (liveN f m) i = []
            · obtain ⟨ha, hs⟩ := HNIL.out i h0
              rw [h0] at hf hmk
              rw [hmk.unt] at hh
              rw [ha] at ca0 hmk
              rw [hs] at cb0
              rw [show ([] : List (List UInt8)).length = 0 from rfl] at hf
              have hu : decide (([] : List (List UInt8)) = []) = true := rfl
              rw [hu] at hh
              have HF := Lib.hid hf
              have HH := Lib.hid hh
              have HE : Hid (rejN f (liveN f m) (i + 1) = rejN f (liveN f m) i ∧ reaSum f (liveN f m) (i + 1) = reaSum f (liveN f m) i) := ⟨hmk.rej, hmk.sum⟩
              have hbs : reaSum f (liveN f m) i ≤ 20 := by have := hmk.bnd; omega
              clear hf hh hmk h0 ha hs hu
              generalize rejN f (liveN f m) i = rj at HE hrr ⊢
              generalize reaSum f (liveN f m) i = rs at HE hbs ⊢
              go_wp2_with fail
              refine (HF.out _ (by repeat' (first | (with_reducible exact Below.refl _ _) | (with_reducible assumption) | (with_reducible refine Below.alloc ?_ ?_ _) | (with_reducible refine Below.drew ?_) | (with_reducible refine Below.setCell ?_ ?_ _) | (with_reducible refine Below.stepB (by assumption) ?_ ?_) | go_size))).mono ?_
              rintro e wf ⟨Af, cf, rfl, hbwf⟩
              obtain ⟨hzwf, hcwf, hfwf⟩ := bfacts hbwf; (try simp at hzwf hcwf hfwf); (try (have : w.heap.size < wf.heap.size := by omega)); (try (have : w.heap.size + 1 < wf.heap.size := by omega)); (try (have : w.heap.size + 1 + 1 < wf.heap.size := by omega)); (try (have : w.heap.size + 1 + 1 + 1 < wf.heap.size := by omega))
              have hlf1 : ba < wf.heap.size := by omega
              have hlf2 : bb < wf.heap.size := by omega
              go_wp2_with fail
              refine (HH.out _ (by repeat' (first | (with_reducible exact Below.refl _ _) | (with_reducible assumption) | (with_reducible refine Below.alloc ?_ ?_ _) | (with_reducible refine Below.drew ?_) | (with_reducible refine Below.setCell ?_ ?_ _) | (with_reducible refine Below.stepB (by assumption) ?_ ?_) | go_size))).mono ?_
              rintro e wg ⟨rfl, hbwg⟩
              obtain ⟨hzwg, hcwg, hfwg⟩ := bfacts hbwg; (try simp at hzwg hcwg hfwg); (try (have : w.heap.size < wg.heap.size := by omega)); (try (have : w.heap.size + 1 < wg.heap.size := by omega)); (try (have : w.heap.size + 1 + 1 < wg.heap.size := by omega)); (try (have : w.heap.size + 1 + 1 + 1 < wg.heap.size := by omega))
              go_wp2_with fail
              go_roundw
              case rel => exact ⟨i + 1, by omega, by go_num, by rw [HE.out.1] <;> first | rfl | (simp; done) | go_num, by rw [HE.out.2] <;> first | rfl | (simp; done) | go_num, by repeat' (first | (with_reducible exact Below.refl _ _) | (with_reducible assumption) | (with_reducible refine Below.alloc ?_ ?_ _) | (with_reducible refine Below.drew ?_) | (with_reducible refine Below.setCell ?_ ?_ _) | (with_reducible refine Below.stepB (by assumption) ?_ ?_) | go_size)⟩
              case measure => simp [intOf]; omega
            · have hu : decide (reaL f (liveN f m) i = []) = false := decide_eq_false h0
              rw [hmk.unt, hu] at hh
              obtain ⟨r, hr⟩ : ∃ r, r = (reaL f (liveN f m) i).length := ⟨_, rfl⟩
              have hr0 : 0 < r := by rw [hr]; exact List.length_pos_iff.2 h0
              have hrn : ((r : Int) == 0) = false := by simp; omega
              rw [← hr] at hf hmk
              have HF := Lib.hid hf
              have HH := Lib.hid hh
              have hmr := hmk.rej
              have hms := hmk.sum
              have hbd := hmk.bnd
              have hbr2 : reaSum f (liveN f m) i ≤ 20 ∧ r ≤ 20 := by omega
              obtain ⟨hbs, hb20⟩ := hbr2
              clear hf hh hmk h0 hr hu hbd
              generalize accV f (liveN f m) i = a at ca0 hmr
              generalize shiftV f (liveN f m) i = sv at cb0
              cases a
              · have HE : Hid (rejN f (liveN f m) (i + 1) = rejN f (liveN f m) i + 1 ∧ reaSum f (liveN f m) (i + 1) = reaSum f (liveN f m) i + r) := ⟨hmr, hms⟩
                clear hmr hms
                generalize rejN f (liveN f m) i = rj at HE hrr ⊢
                generalize reaSum f (liveN f m) i = rs at HE hbs ⊢
                go_wp2_with fail
                refine (HF.out _ (by repeat' (first | (with_reducible exact Below.refl _ _) | (with_reducible assumption) | (with_reducible refine Below.alloc ?_ ?_ _) | (with_reducible refine Below.drew ?_) | (with_reducible refine Below.setCell ?_ ?_ _) | (with_reducible refine Below.stepB (by assumption) ?_ ?_) | go_size))).mono ?_
                rintro e wf ⟨Af, cf, rfl, hbwf⟩
                obtain ⟨hzwf, hcwf, hfwf⟩ := bfacts hbwf; (try simp at hzwf hcwf hfwf); (try (have : w.heap.size < wf.heap.size := by omega)); (try (have : w.heap.size + 1 < wf.heap.size := by omega)); (try (have : w.heap.size + 1 + 1 < wf.heap.size := by omega)); (try (have : w.heap.size + 1 + 1 + 1 < wf.heap.size := by omega))
                have hlf1 : ba < wf.heap.size := by omega
                have hlf2 : bb < wf.heap.size := by omega
                go_wp2_with fail
                refine (HH.out _ (by repeat' (first | (with_reducible exact Below.refl _ _) | (with_reducible assumption) | (with_reducible refine Below.alloc ?_ ?_ _) | (with_reducible refine Below.drew ?_) | (with_reducible refine Below.setCell ?_ ?_ _) | (with_reducible refine Below.stepB (by assumption) ?_ ?_) | go_size))).mono ?_
                rintro e wg ⟨rfl, hbwg⟩
                obtain ⟨hzwg, hcwg, hfwg⟩ := bfacts hbwg; (try simp at hzwg hcwg hfwg); (try (have : w.heap.size < wg.heap.size := by omega)); (try (have : w.heap.size + 1 < wg.heap.size := by omega)); (try (have : w.heap.size + 1 + 1 < wg.heap.size := by omega)); (try (have : w.heap.size + 1 + 1 + 1 < wg.heap.size := by omega))
                go_wp2_with fail
                go_roundw
                case rel => exact ⟨i + 1, by omega, by go_num, by rw [HE.out.1] <;> first | rfl | (simp; done) | go_num, by rw [HE.out.2] <;> first | rfl | (simp; done) | go_num, by repeat' (first | (with_reducible exact Below.refl _ _) | (with_reducible assumption) | (with_reducible refine Below.alloc ?_ ?_ _) | (with_reducible refine Below.drew ?_) | (with_reducible refine Below.setCell ?_ ?_ _) | (with_reducible refine Below.stepB (by assumption) ?_ ?_) | go_size)⟩
                case measure => simp [intOf]; omega
              · have HE : Hid (rejN f (liveN f m) (i + 1) = rejN f (liveN f m) i ∧ reaSum f (liveN f m) (i + 1) = reaSum f (liveN f m) i + r) := ⟨hmr, hms⟩
                clear hmr hms
                generalize rejN f (liveN f m) i = rj at HE hrr ⊢
                generalize reaSum f (liveN f m) i = rs at HE hbs ⊢
                go_wp2_with fail
                refine (HF.out _ (by repeat' (first | (with_reducible exact Below.refl _ _) | (with_reducible assumption) | (with_reducible refine Below.alloc ?_ ?_ _) | (with_reducible refine Below.drew ?_) | (with_reducible refine Below.setCell ?_ ?_ _) | (with_reducible refine Below.stepB (by assumption) ?_ ?_) | go_size))).mono ?_
                rintro e wf ⟨Af, cf, rfl, hbwf⟩
                obtain ⟨hzwf, hcwf, hfwf⟩ := bfacts hbwf; (try simp at hzwf hcwf hfwf); (try (have : w.heap.size < wf.heap.size := by omega)); (try (have : w.heap.size + 1 < wf.heap.size := by omega)); (try (have : w.heap.size + 1 + 1 < wf.heap.size := by omega)); (try (have : w.heap.size + 1 + 1 + 1 < wf.heap.size := by omega))
                have hlf1 : ba < wf.heap.size := by omega
                have hlf2 : bb < wf.heap.size := by omega
                go_wp2_with fail
                refine (HH.out _ (by repeat' (first | (with_reducible exact Below.refl _ _) | (with_reducible assumption) | (with_reducible refine Below.alloc ?_ ?_ _) | (with_reducible refine Below.drew ?_) | (with_reducible refine Below.setCell ?_ ?_ _) | (with_reducible refine Below.stepB (by assumption) ?_ ?_) | go_size))).mono ?_
                rintro e wg ⟨rfl, hbwg⟩
                obtain ⟨hzwg, hcwg, hfwg⟩ := bfacts hbwg; (try simp at hzwg hcwg hfwg); (try (have : w.heap.size < wg.heap.size := by omega)); (try (have : w.heap.size + 1 < wg.heap.size := by omega)); (try (have : w.heap.size + 1 + 1 < wg.heap.size := by omega)); (try (have : w.heap.size + 1 + 1 + 1 < wg.heap.size := by omega))
                go_wp2_with fail
                go_roundw
                case rel => exact ⟨i + 1, by omega, by go_num, by rw [HE.out.1] <;> first | rfl | (simp; done) | go_num, by rw [HE.out.2] <;> first | rfl | (simp; done) | go_num, by repeat' (first | (with_reducible exact Below.refl _ _) | (with_reducible assumption) | (with_reducible refine Below.alloc ?_ ?_ _) | (with_reducible refine Below.drew ?_) | (with_reducible refine Below.setCell ?_ ?_ _) | (with_reducible refine Below.stepB (by assumption) ?_ ?_) | go_size)⟩
                case measure => simp [intOf]; omega
          · obtain rfl : i = M := by omega
            rw [HSU.out]
            have hq1 := HRL.out
            have hq2 := HRR.out
            rw [← hq1, ← hq2]
            clear hq1 hq2
            go_wp2_with fail
            go_meet
            exact HBb.out.trans (hbr.mono hzb)
    have HB5 := Lib.hid (HB9.out.trans (hcut.mono hz9))
    have hzc := HB5.out.size
    try clear hcut; try clear HO9; try clear HGA; try clear HCL; try clear HCU; try clear HCR; try clear HS1; try clear HW9; try clear HB9; try clear HB1; try clear hz9; try clear hz19; try clear hl1; try clear hl2; try clear hm; try clear hmc; try clear hz1
    as_aux_lemma =>
      go_wp2_with fail
      refine (DrawReasonsFor_any n c A B _ HR.out (HS.out.below HB5.out) hn).mono ?_
      rintro e w1 ⟨marks, m, b1, c1, f, x, rfl, hm, hmc, hO, hbw1⟩
      have HS1 := Lib.hid (show SlES w1 (some ⟨b1, 0, none⟩) m f from hO.sl)
      have HB1 := Lib.hid (HB5.out.trans (hbw1.mono hzc))
      have hz1 := HB1.out.size
      clear hO hbw1
      have h1 := fun W (hb : Below w1.heap.size w1 W) => ReasonsFor_any marks (some ⟨b1, 0, none⟩) m c1 f x W (HS1.out.below hb) (by omega)
      have h2 := fun W (hb : Below w1.heap.size w1 W) => specReasons_any marks b1 0 m c1 f x W (HS1.out.below hb) hmc (by omega)
      have hle : cntN (reaOk marks f m x) (reaL f (liveN f m) x).length ≤ 1048576 := by
        have := cntN_le (reaOk marks f m x) (reaL f (liveN f m) x).length
        have := reaL_len (f := f) (T := liveN f m) (mark := x)
        have := liveN_len f m
        omega
      generalize cntN (reaOk marks f m x) (reaL f (liveN f m) x).length = cx at h1 h2 hle
      generalize reaOk marks f m x = okA at h1 h2
      have HA1 := Lib.hid h1
      have HA2 := Lib.hid h2
      clear h1 h2
      go_wp2_with fail
      refine (HA1.out _ (Below.refl _ _)).mono ?_
      rintro e w2 ⟨A2, c2, rfl, hO2, hbw2⟩
      obtain ⟨hzw2, hcw2, hfw2⟩ := bfacts hbw2; (try simp at hzw2 hcw2 hfw2); (try (have : w.heap.size < w2.heap.size := by omega)); (try (have : w.heap.size + 1 < w2.heap.size := by omega)); (try (have : w.heap.size + 1 + 1 < w2.heap.size := by omega)); (try (have : w.heap.size + 1 + 1 + 1 < w2.heap.size := by omega))
      have HO2 := Lib.hid hO2
      clear hO2
      go_wp2_with fail
      refine (HA2.out _ (by repeat' (first | (with_reducible exact Below.refl _ _) | (with_reducible assumption) | (with_reducible refine Below.alloc ?_ ?_ _) | (with_reducible refine Below.drew ?_) | (with_reducible refine Below.setCell ?_ ?_ _) | (with_reducible refine Below.stepB (by assumption) ?_ ?_) | go_size))).mono ?_
      rintro e w3 ⟨A3, c3, rfl, hO3, hbw3⟩
      obtain ⟨hzw3, hcw3, hfw3⟩ := bfacts hbw3; (try simp at hzw3 hcw3 hfw3); (try (have : w.heap.size < w3.heap.size := by omega)); (try (have : w.heap.size + 1 < w3.heap.size := by omega)); (try (have : w.heap.size + 1 + 1 < w3.heap.size := by omega)); (try (have : w.heap.size + 1 + 1 + 1 < w3.heap.size := by omega))
      go_wp2_with fail
      refine (rTexts_same _ _ _ _ _ (fun i => (reaL f (liveN f m) x).getD i []) _ (Own.sl (HO2.out.below hbw3)) hO3.sl hle).mono ?_
      rintro e w5 ⟨rfl, hbw5⟩
      obtain ⟨hzw5, hcw5, hfw5⟩ := bfacts hbw5; (try simp at hzw5 hcw5 hfw5); (try (have : w.heap.size < w5.heap.size := by omega)); (try (have : w.heap.size + 1 < w5.heap.size := by omega)); (try (have : w.heap.size + 1 + 1 < w5.heap.size := by omega)); (try (have : w.heap.size + 1 + 1 + 1 < w5.heap.size := by omega))
      have HB7 := Lib.hid (HB1.out.trans ((show Below w1.heap.size w1 w5 from by repeat' (first | (with_reducible exact Below.refl _ _) | (with_reducible assumption) | (with_reducible refine Below.alloc ?_ ?_ _) | (with_reducible refine Below.drew ?_) | (with_reducible refine Below.setCell ?_ ?_ _) | (with_reducible refine Below.stepB (by assumption) ?_ ?_) | go_size)).mono hz1))
      go_wp2
      go_ret
      exact ⟨rfl, HB7.out⟩
  · have hbig : decide (65536 < (n : Int)) = true := decide_eq_true (by omega)
    clear hS hR
    go_enter Try.func4, Try.ntmps4
    go_wp2_with (go_at_call 5; refine (rBig_any A n c _).mono ?_; rintro e w' ⟨rfl, rfl⟩)
    go_ret
    exact ⟨rfl, Below.refl _ _⟩
end Go.Proofs.Ytbgpmbaonjehbaa
