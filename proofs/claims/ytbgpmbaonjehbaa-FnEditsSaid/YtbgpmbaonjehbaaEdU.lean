/- The law on edits: an undo behind a step, clean steps; over the contracts. -/
import Derived.Test.YtbgpmbaonjehbaaEdR
import Derived.Test.YtbgpmbaonjehbaaEdS
import Derived.Test.YtbgpmbaonjehbaaEdJ
import Derived.Test.YtbgpmbaonjehbaaEdK
import Derived.Deep.CutBlock
import Derived.Deep.DeepCutAuto
namespace Go.Proofs.Ytbgpmbaonjehbaa
open Go.RowKit
theorem SlES.zero (w : World) (A : Option Addr) (f : Nat → ES) : SlES w A 0 f := fun h => absurd h (Nat.lt_irrefl _)
theorem VOut.le {w w' : World} {n : Nat} {g : Nat → Value} {ok : Bool} {e : Ending} (h : VOut w n g ok e w') : ∃ A c, e = .returned (.tuple #[.slice A n c, .bool ok]) ∧ Own w' w.heap.size 1 A n (fun i _ => g i) ∧ Below w.heap.size w w' := h
set_option maxRecDepth 100000 in
set_option maxHeartbeats 16000000 in
theorem law_FnEdits (n c : Nat) (A : Option Addr) (B : Nat → Int) (w : World) (hR : ∀ i, 0 ≤ B i ∧ B i ≤ 255) (hS : Sl w 1 A n (fun i _ => .int .u8 (B i))) : Calls Try.prog 3 #[.slice A n c] w
    fun e w' => e = .returned (.bool true) ∧ Below w.heap.size w w' := by
  by_cases hn : n ≤ 65536
  · have HS := Lib.hid hS
    have HR := Lib.hid hR
    clear hS hR
    have hbig : decide (65536 < (n : Int)) = false := decide_eq_false (by omega)
    go_enter Try.func3, Try.ntmps3
    go_wp2_with (go_at_call 5; refine (rBig_any A n c _).mono ?_; rintro e w' ⟨rfl, rfl⟩)
    refine (DrawAppendStep_any n c A B _ HR.out HS.out hn).mono ?_
    rintro e w1 ⟨marks, m, b1, c1, f, s, rfl, hm, hmc, hO, hbw1⟩
    have HS1 := Lib.hid (show SlES w1 (some ⟨b1, 0, none⟩) m f from hO.sl)
    have HB1 := Lib.hid hbw1
    have hz1 := hbw1.size
    clear hO hbw1
    have h1 := fun W (hb : Below w1.heap.size w1 W) => AppendStep_any marks b1 0 m c1 f s W (HS1.out.below hb) (by omega)
    have h2 := fun W (hb : Below w1.heap.size w1 W) => specAppend_any marks b1 0 m c1 f s W (HS1.out.below hb) (by omega)
    obtain ⟨okA, hokA⟩ : ∃ q, q = goodEd marks (putE f m s) (m + 1) := ⟨_, rfl⟩
    rw [← hokA] at h1 h2
    have HGA := Lib.hid hokA
    have HA1 := Lib.hid h1
    have HA2 := Lib.hid h2
    have hle : cntN okA (m + 1) ≤ 1048576 := by have := cntN_le okA (m + 1); omega
    clear h1 h2 hokA
    go_wp2_with fail
    refine (HA1.out _ (by repeat' (first | (with_reducible exact Below.refl _ _) | (with_reducible assumption) | (with_reducible refine Below.alloc ?_ ?_ _) | (with_reducible refine Below.drew ?_) | (with_reducible refine Below.setCell ?_ ?_ _) | (with_reducible refine Below.stepB (by assumption) ?_ ?_) | go_size))).mono ?_
    rintro e w2 ⟨A2, c2, rfl, hX2, hO2, hbw2⟩
    obtain ⟨hzw2, hcw2, hfw2⟩ := bfacts hbw2; (try simp at hzw2 hcw2 hfw2); (try (have : w.heap.size < w2.heap.size := by omega)); (try (have : w.heap.size + 1 < w2.heap.size := by omega)); (try (have : w.heap.size + 1 + 1 < w2.heap.size := by omega)); (try (have : w.heap.size + 1 + 1 + 1 < w2.heap.size := by omega))
    have HO2 := Lib.hid hO2
    have HX2 := Lib.hid hX2
    go_wp2_with fail
    refine (HA2.out _ (by repeat' (first | (with_reducible exact Below.refl _ _) | (with_reducible assumption) | (with_reducible refine Below.alloc ?_ ?_ _) | (with_reducible refine Below.drew ?_) | (with_reducible refine Below.setCell ?_ ?_ _) | (with_reducible refine Below.stepB (by assumption) ?_ ?_) | go_size))).mono ?_
    rintro e w3 ⟨A3, c3, rfl, -, hO3, hbw3⟩
    obtain ⟨hzw3, hcw3, hfw3⟩ := bfacts hbw3; (try simp at hzw3 hcw3 hfw3); (try (have : w.heap.size < w3.heap.size := by omega)); (try (have : w.heap.size + 1 < w3.heap.size := by omega)); (try (have : w.heap.size + 1 + 1 < w3.heap.size := by omega)); (try (have : w.heap.size + 1 + 1 + 1 < w3.heap.size := by omega))
    go_wp2_with fail
    refine (rSteps_same _ _ _ _ _ (putE f m s) _ (Own.sl (HO2.out.below hbw3)) hO3.sl hle).mono ?_
    rintro e w4 ⟨rfl, hbw4⟩
    obtain ⟨hzw4, hcw4, hfw4⟩ := bfacts hbw4; (try simp at hzw4 hcw4 hfw4); (try (have : w.heap.size < w4.heap.size := by omega)); (try (have : w.heap.size + 1 < w4.heap.size := by omega)); (try (have : w.heap.size + 1 + 1 < w4.heap.size := by omega)); (try (have : w.heap.size + 1 + 1 + 1 < w4.heap.size := by omega))
    have HW4 := Lib.hid (show Below w1.heap.size w1 w4 from by repeat' (first | (with_reducible exact Below.refl _ _) | (with_reducible assumption) | (with_reducible refine Below.alloc ?_ ?_ _) | (with_reducible refine Below.drew ?_) | (with_reducible refine Below.setCell ?_ ?_ _) | (with_reducible refine Below.stepB (by assumption) ?_ ?_) | go_size))
    have HO4 := Lib.hid ((HO2.out.below hbw3).below hbw4)
    have HB4 := Lib.hid (HB1.out.trans (HW4.out.mono hz1))
    have hz4 := HB4.out.size
    have hz14 := HW4.out.size
    have k0 : w4.cell? ⟨w1.heap.size, 0, none⟩ = some (.int .i64 s.kind) := by
      have hl2 : w1.heap.size < w2.heap.size := by omega
      have hl3 : w1.heap.size < w3.heap.size := by omega
      simp [hcw4, hcw3, hcw2, hl2, hl3]
    have hl4 : w1.heap.size < w4.heap.size := by omega
    clear hO2 hX2 hO3 HO2 HA1 HA2 hbw2 hbw3 hbw4 hcw2 hcw3 hcw4 hfw2 hfw3 hfw4 hzw2 hzw3 hzw4
    go_upto_region 8 with fail
    go_cut [82] (fun v wx => ∃ t : Bool, v = .bool t ∧ Hid (t = true → okA = true ∧ s.kind ≠ 3) ∧ w4 = wx)
    case first =>
      cases okA
      · go_wp2_with fail
        go_meet
        exact ⟨false, rfl, fun h => absurd h (by decide), rfl⟩
      · by_cases hk : s.kind = 3
        · have hkb : (s.kind != 3) = false := by simpa using hk
          clear hk
          go_wp2_with fail
          go_meet
          exact ⟨false, rfl, fun h => absurd h (by decide), rfl⟩
        · have hkb : (s.kind != 3) = true := by simpa using hk
          have HK := Lib.hid hk
          clear hk
          go_wp2_with fail
          go_meet
          exact ⟨true, rfl, fun _ => ⟨by first | trivial | rfl, HK.out⟩, rfl⟩
    obtain ⟨tt, rfl, HTT, rfl⟩ := hcut
    go_upto_if 82 with fail
    go_cut [10] (fun v10 wx => Below w4.heap.size w4 wx)
    case first =>
      cases tt
      · go_wp2_with fail
        go_meet
        exact Below.refl _ _
      · obtain ⟨eO, eK⟩ := HTT.out (by first | trivial | rfl)
        subst eO
        have hNe : cntN true (m + 1) = m + 1 := rfl
        obtain ⟨bX, rfl⟩ := HX2.out rfl
        rw [hNe] at HO4
        simp only [hNe]
        have hgood : goodEd marks (putE f m s) (m + 1) = true := HGA.out.symm
        have hbef := good_before hgood
        have hund := undo_good hgood eK
        have HEK := Lib.hid eK
        have hSX := HO4.out.sl
        have h3 := fun W (hb : Below w4.heap.size w4 W) => show Calls Try.prog 7 #[.int .i64 marks, .slice (some ⟨bX, 0, none⟩) (m + 1) c2, .agg #[.int .i64 3, .int .i64 0, .int .i64 0, .string ⟨#[98, 97, 99, 107]⟩]] W fun e w' => SOut W (cntN (goodEd marks (putE (putE f m s) (m + 1) stUndo) (m + 1 + 1)) (m + 1 + 1)) (putE (putE f m s) (m + 1) stUndo) (goodEd marks (putE (putE f m s) (m + 1) stUndo) (m + 1 + 1)) e w' from AppendStep_any marks bX 0 (m + 1) c2 (putE f m s) stUndo W (Sl.below hSX hb) (by omega)
        have h4 := fun W (hb : Below w4.heap.size w4 W) => AcceptedAfter_any marks (some ⟨b1, 0, none⟩) m c1 f W (HS1.out.below (HW4.out.trans (hb.mono hz14))) (by omega)
        have h5 := fun W (hb : Below w4.heap.size w4 W) => ShiftsAfter_any marks (some ⟨b1, 0, none⟩) m c1 f W (HS1.out.below (HW4.out.trans (hb.mono hz14))) (by omega)
        have hM15 := (goodEd_bd hbef).1.2
        have hM := (show cntN true marks.toNat ≤ 1048576 by have := cntN_le true marks.toNat; omega)
        rw [hund] at h3
        rw [hbef] at h4 h5
        have HA4 := Lib.hid h4
        have HA5 := Lib.hid h5
        clear h4 h5 hgood hbef eK hNe hSX hM15
        by_cases h20 : m + 1 < 20
        · have hlt : decide ((m : Int) + 1 < 20) = true := decide_eq_true (by omega)
          rw [decide_eq_true h20] at h3 hund
          have HA3 := Lib.hid h3
          have HUN := Lib.hid hund
          clear h3 hund h20
          go_wp2_with fail
          refine (HA3.out _ (Below.refl _ _)).mono ?_
          rintro e w5 ⟨A5, c5, rfl, -, hO5, hbw5⟩
          obtain ⟨hzw5, hcw5, hfw5⟩ := bfacts hbw5; (try simp at hzw5 hcw5 hfw5); (try (have : w.heap.size < w5.heap.size := by omega)); (try (have : w.heap.size + 1 < w5.heap.size := by omega)); (try (have : w.heap.size + 1 + 1 < w5.heap.size := by omega)); (try (have : w.heap.size + 1 + 1 + 1 < w5.heap.size := by omega))
          have h6 := fun W (hb : Below w5.heap.size w5 W) => AcceptedAfter_any marks A5 (m + 1 + 1) c5 (putE (putE f m s) (m + 1) stUndo) W (Sl.below hO5.sl hb) (by omega)
          have h7 := fun W (hb : Below w5.heap.size w5 W) => ShiftsAfter_any marks A5 (m + 1 + 1) c5 (putE (putE f m s) (m + 1) stUndo) W (Sl.below hO5.sl hb) (by omega)
          rw [HUN.out] at h6 h7
          rw [show (fun i : Nat => Value.bool (accV (putE (putE f m s) (m + 1) stUndo) (liveN (putE (putE f m s) (m + 1) stUndo) (m + 1 + 1)) i)) = fun i : Nat => Value.bool (accV f (liveN f m) i) from funext fun i => by rw [undo_acc HEK.out]] at h6
          rw [show (fun i : Nat => Value.int .i64 (shiftV (putE (putE f m s) (m + 1) stUndo) (liveN (putE (putE f m s) (m + 1) stUndo) (m + 1 + 1)) i)) = fun i : Nat => Value.int .i64 (shiftV f (liveN f m) i) from funext fun i => by rw [undo_shift HEK.out]] at h7
          have HA6 := Lib.hid h6
          have HA7 := Lib.hid h7
          clear h6 h7 hO5 HA3
          go_wp2_with fail
          refine (HA4.out _ (by repeat' (first | (with_reducible exact Below.refl _ _) | (with_reducible assumption) | (with_reducible refine Below.alloc ?_ ?_ _) | (with_reducible refine Below.drew ?_) | (with_reducible refine Below.setCell ?_ ?_ _) | (with_reducible refine Below.stepB (by assumption) ?_ ?_) | go_size))).mono ?_
          rintro e w6 ⟨A6, c6, rfl, hO6, hbw6⟩
          obtain ⟨hzw6, hcw6, hfw6⟩ := bfacts hbw6; (try simp at hzw6 hcw6 hfw6); (try (have : w.heap.size < w6.heap.size := by omega)); (try (have : w.heap.size + 1 < w6.heap.size := by omega)); (try (have : w.heap.size + 1 + 1 < w6.heap.size := by omega)); (try (have : w.heap.size + 1 + 1 + 1 < w6.heap.size := by omega))
          have HO6 := Lib.hid hO6
          clear hO6
          go_wp2_with fail
          refine (HA6.out _ (by repeat' (first | (with_reducible exact Below.refl _ _) | (with_reducible assumption) | (with_reducible refine Below.alloc ?_ ?_ _) | (with_reducible refine Below.drew ?_) | (with_reducible refine Below.setCell ?_ ?_ _) | (with_reducible refine Below.stepB (by assumption) ?_ ?_) | go_size))).mono ?_
          rintro e w7 ⟨A7, c7, rfl, hO7, hbw7⟩
          obtain ⟨hzw7, hcw7, hfw7⟩ := bfacts hbw7; (try simp at hzw7 hcw7 hfw7); (try (have : w.heap.size < w7.heap.size := by omega)); (try (have : w.heap.size + 1 < w7.heap.size := by omega)); (try (have : w.heap.size + 1 + 1 < w7.heap.size := by omega)); (try (have : w.heap.size + 1 + 1 + 1 < w7.heap.size := by omega))
          have HO7 := Lib.hid hO7
          clear hO7
          go_wp2_with fail
          refine (HA5.out _ (by repeat' (first | (with_reducible exact Below.refl _ _) | (with_reducible assumption) | (with_reducible refine Below.alloc ?_ ?_ _) | (with_reducible refine Below.drew ?_) | (with_reducible refine Below.setCell ?_ ?_ _) | (with_reducible refine Below.stepB (by assumption) ?_ ?_) | go_size))).mono ?_
          rintro e w8 ⟨A8, c8, rfl, hO8, hbw8⟩
          obtain ⟨hzw8, hcw8, hfw8⟩ := bfacts hbw8; (try simp at hzw8 hcw8 hfw8); (try (have : w.heap.size < w8.heap.size := by omega)); (try (have : w.heap.size + 1 < w8.heap.size := by omega)); (try (have : w.heap.size + 1 + 1 < w8.heap.size := by omega)); (try (have : w.heap.size + 1 + 1 + 1 < w8.heap.size := by omega))
          have HO8 := Lib.hid hO8
          clear hO8
          go_wp2_with fail
          refine (HA7.out _ (by repeat' (first | (with_reducible exact Below.refl _ _) | (with_reducible assumption) | (with_reducible refine Below.alloc ?_ ?_ _) | (with_reducible refine Below.drew ?_) | (with_reducible refine Below.setCell ?_ ?_ _) | (with_reducible refine Below.stepB (by assumption) ?_ ?_) | go_size))).mono ?_
          rintro e w9 ⟨A9, c9, rfl, hO9, hbw9⟩
          obtain ⟨hzw9, hcw9, hfw9⟩ := bfacts hbw9; (try simp at hzw9 hcw9 hfw9); (try (have : w.heap.size < w9.heap.size := by omega)); (try (have : w.heap.size + 1 < w9.heap.size := by omega)); (try (have : w.heap.size + 1 + 1 < w9.heap.size := by omega)); (try (have : w.heap.size + 1 + 1 + 1 < w9.heap.size := by omega))
          have HO9 := Lib.hid hO9
          clear hO9
          go_wp2_with fail
          refine (rBools_same _ _ _ _ _ (fun i => accV f (liveN f m) i) _ (((HO6.out.below hbw7).below hbw8).below hbw9).sl ((HO7.out.below hbw8).below hbw9).sl hM).mono ?_
          rintro e w10 ⟨rfl, hbw10⟩
          obtain ⟨hzw10, hcw10, hfw10⟩ := bfacts hbw10; (try simp at hzw10 hcw10 hfw10); (try (have : w.heap.size < w10.heap.size := by omega)); (try (have : w.heap.size + 1 < w10.heap.size := by omega)); (try (have : w.heap.size + 1 + 1 < w10.heap.size := by omega)); (try (have : w.heap.size + 1 + 1 + 1 < w10.heap.size := by omega))
          go_wp2_with fail
          refine (rInts_same _ _ _ _ _ (fun i => shiftV f (liveN f m) i) _ ((HO8.out.below hbw9).below hbw10).sl (HO9.out.below hbw10).sl hM).mono ?_
          rintro e w11 ⟨rfl, hbw11⟩
          obtain ⟨hzw11, hcw11, hfw11⟩ := bfacts hbw11; (try simp at hzw11 hcw11 hfw11); (try (have : w.heap.size < w11.heap.size := by omega)); (try (have : w.heap.size + 1 < w11.heap.size := by omega)); (try (have : w.heap.size + 1 + 1 < w11.heap.size := by omega)); (try (have : w.heap.size + 1 + 1 + 1 < w11.heap.size := by omega))
          go_wp2_with fail
          go_meet
          repeat' (first | (with_reducible exact Below.refl _ _) | (with_reducible assumption) | (with_reducible refine Below.alloc ?_ ?_ _) | (with_reducible refine Below.drew ?_) | (with_reducible refine Below.setCell ?_ ?_ _) | (with_reducible refine Below.stepB (by assumption) ?_ ?_) | go_size)
        · have hlt : decide ((m : Int) + 1 < 20) = false := decide_eq_false (by omega)
          rw [decide_eq_false h20] at h3
          rw [show cntN false (m + 1 + 1) = 0 from rfl] at h3
          have HA3 := Lib.hid h3
          clear h3 hund h20
          go_wp2_with fail
          refine (HA3.out _ (Below.refl _ _)).mono ?_
          rintro e w5 ⟨A5, c5, rfl, -, hO5, hbw5⟩
          obtain ⟨hzw5, hcw5, hfw5⟩ := bfacts hbw5; (try simp at hzw5 hcw5 hfw5); (try (have : w.heap.size < w5.heap.size := by omega)); (try (have : w.heap.size + 1 < w5.heap.size := by omega)); (try (have : w.heap.size + 1 + 1 < w5.heap.size := by omega)); (try (have : w.heap.size + 1 + 1 + 1 < w5.heap.size := by omega))
          have h6 := fun W => AcceptedAfter_any marks A5 0 c5 f W (SlES.zero W A5 f) (by omega)
          have h7 := fun W => ShiftsAfter_any marks A5 0 c5 f W (SlES.zero W A5 f) (by omega)
          generalize goodEd marks f 0 = ok0 at h6 h7
          generalize cntN ok0 marks.toNat = n0 at h6 h7
          have HA6 := Lib.hid h6
          have HA7 := Lib.hid h7
          clear h6 h7 hO5 HA3
          go_wp2_with fail
          refine (HA4.out _ (by repeat' (first | (with_reducible exact Below.refl _ _) | (with_reducible assumption) | (with_reducible refine Below.alloc ?_ ?_ _) | (with_reducible refine Below.drew ?_) | (with_reducible refine Below.setCell ?_ ?_ _) | (with_reducible refine Below.stepB (by assumption) ?_ ?_) | go_size))).mono ?_
          rintro e w6 ⟨A6, c6, rfl, -, hbw6⟩
          obtain ⟨hzw6, hcw6, hfw6⟩ := bfacts hbw6; (try simp at hzw6 hcw6 hfw6); (try (have : w.heap.size < w6.heap.size := by omega)); (try (have : w.heap.size + 1 < w6.heap.size := by omega)); (try (have : w.heap.size + 1 + 1 < w6.heap.size := by omega)); (try (have : w.heap.size + 1 + 1 + 1 < w6.heap.size := by omega))
          go_wp2_with fail
          refine (HA6.out _).mono ?_
          rintro e w7 ⟨A7, c7, rfl, -, hbw7⟩
          obtain ⟨hzw7, hcw7, hfw7⟩ := bfacts hbw7; (try simp at hzw7 hcw7 hfw7); (try (have : w.heap.size < w7.heap.size := by omega)); (try (have : w.heap.size + 1 < w7.heap.size := by omega)); (try (have : w.heap.size + 1 + 1 < w7.heap.size := by omega)); (try (have : w.heap.size + 1 + 1 + 1 < w7.heap.size := by omega))
          go_wp2_with fail
          refine (HA5.out _ (by repeat' (first | (with_reducible exact Below.refl _ _) | (with_reducible assumption) | (with_reducible refine Below.alloc ?_ ?_ _) | (with_reducible refine Below.drew ?_) | (with_reducible refine Below.setCell ?_ ?_ _) | (with_reducible refine Below.stepB (by assumption) ?_ ?_) | go_size))).mono ?_
          rintro e w8 ⟨A8, c8, rfl, -, hbw8⟩
          obtain ⟨hzw8, hcw8, hfw8⟩ := bfacts hbw8; (try simp at hzw8 hcw8 hfw8); (try (have : w.heap.size < w8.heap.size := by omega)); (try (have : w.heap.size + 1 < w8.heap.size := by omega)); (try (have : w.heap.size + 1 + 1 < w8.heap.size := by omega)); (try (have : w.heap.size + 1 + 1 + 1 < w8.heap.size := by omega))
          go_wp2_with fail
          refine (HA7.out _).mono ?_
          rintro e w9 ⟨A9, c9, rfl, -, hbw9⟩
          obtain ⟨hzw9, hcw9, hfw9⟩ := bfacts hbw9; (try simp at hzw9 hcw9 hfw9); (try (have : w.heap.size < w9.heap.size := by omega)); (try (have : w.heap.size + 1 < w9.heap.size := by omega)); (try (have : w.heap.size + 1 + 1 < w9.heap.size := by omega)); (try (have : w.heap.size + 1 + 1 + 1 < w9.heap.size := by omega))
          go_wp2_with fail
          go_meet
          repeat' (first | (with_reducible exact Below.refl _ _) | (with_reducible assumption) | (with_reducible refine Below.alloc ?_ ?_ _) | (with_reducible refine Below.drew ?_) | (with_reducible refine Below.setCell ?_ ?_ _) | (with_reducible refine Below.stepB (by assumption) ?_ ?_) | go_size)
    have HB5 := Lib.hid (HB4.out.trans (hcut.mono hz4))
    have hzc := HB5.out.size
    try clear hcut; try clear HO4; try clear HX2; try clear HGA; try clear HTT; try clear HS1; try clear HW4; try clear HB4; try clear HB1; try clear HA2; try clear hz4; try clear hz14; try clear k0; try clear hl4; try clear hle; try clear hm; try clear hmc; try clear hz1
    as_aux_lemma =>
      go_wp2_with fail
      refine (DrawCleanSteps_any n c A B _ HR.out (HS.out.below HB5.out) hn).mono ?_
      rintro e w1 ⟨marks, m, b1, c1, f, rfl, hm, hmc, hO, hbw1⟩
      have HS1 := Lib.hid (show SlES w1 (some ⟨b1, 0, none⟩) m f from hO.sl)
      have HB1 := Lib.hid (HB5.out.trans (hbw1.mono hzc))
      have hz1 := HB1.out.size
      clear hO hbw1
      have h1 := fun W (hb : Below w1.heap.size w1 W) => CleanSteps_any marks (some ⟨b1, 0, none⟩) m c1 f W (HS1.out.below hb) (by omega)
      have h2 := fun W (hb : Below w1.heap.size w1 W) => specClean_any marks b1 0 m c1 f W (HS1.out.below hb) hmc (by omega)
      have h3 := fun W (hb : Below w1.heap.size w1 W) => IsEditList_any marks (some ⟨b1, 0, none⟩) m c1 f W (HS1.out.below hb) (by omega)
      obtain ⟨okA, hokA⟩ : ∃ q, q = goodEd marks f m := ⟨_, rfl⟩
      obtain ⟨cn, hcn⟩ : ∃ q, q = cntN okA (liveN f m).length := ⟨_, rfl⟩
      rw [← hokA, ← hcn] at h1 h2
      rw [← hokA] at h3
      have hle : cn ≤ 21 := by have := cntN_le okA (liveN f m).length; have := liveN_len f m; omega
      have HGA := Lib.hid hokA
      have HCN := Lib.hid hcn
      have HA1 := Lib.hid h1
      have HA2 := Lib.hid h2
      have HA3 := Lib.hid h3
      clear h1 h2 h3 hokA hcn
      go_wp2_with fail
      refine (HA1.out _ (Below.refl _ _)).mono ?_
      rintro e w2 ⟨A2, c2, rfl, hX2, hO2, hbw2⟩
      obtain ⟨hzw2, hcw2, hfw2⟩ := bfacts hbw2; (try simp at hzw2 hcw2 hfw2); (try (have : w.heap.size < w2.heap.size := by omega)); (try (have : w.heap.size + 1 < w2.heap.size := by omega)); (try (have : w.heap.size + 1 + 1 < w2.heap.size := by omega)); (try (have : w.heap.size + 1 + 1 + 1 < w2.heap.size := by omega))
      have HO2 := Lib.hid hO2
      have HX2 := Lib.hid hX2
      clear hO2 hX2 HA1
      go_wp2_with fail
      refine (HA2.out _ (by repeat' (first | (with_reducible exact Below.refl _ _) | (with_reducible assumption) | (with_reducible refine Below.alloc ?_ ?_ _) | (with_reducible refine Below.drew ?_) | (with_reducible refine Below.setCell ?_ ?_ _) | (with_reducible refine Below.stepB (by assumption) ?_ ?_) | go_size))).mono ?_
      rintro e w3 ⟨A3, c3, rfl, -, hO3, hbw3⟩
      obtain ⟨hzw3, hcw3, hfw3⟩ := bfacts hbw3; (try simp at hzw3 hcw3 hfw3); (try (have : w.heap.size < w3.heap.size := by omega)); (try (have : w.heap.size + 1 < w3.heap.size := by omega)); (try (have : w.heap.size + 1 + 1 < w3.heap.size := by omega)); (try (have : w.heap.size + 1 + 1 + 1 < w3.heap.size := by omega))
      go_wp2_with fail
      refine (rSteps_same _ _ _ _ _ (clnF f (liveN f m)) _ (Own.sl (HO2.out.below hbw3)) hO3.sl (by omega)).mono ?_
      rintro e w4 ⟨rfl, hbw4⟩
      obtain ⟨hzw4, hcw4, hfw4⟩ := bfacts hbw4; (try simp at hzw4 hcw4 hfw4); (try (have : w.heap.size < w4.heap.size := by omega)); (try (have : w.heap.size + 1 < w4.heap.size := by omega)); (try (have : w.heap.size + 1 + 1 < w4.heap.size := by omega)); (try (have : w.heap.size + 1 + 1 + 1 < w4.heap.size := by omega))
      clear hO3
      go_wp2_with fail
      refine (HA3.out _ (by repeat' (first | (with_reducible exact Below.refl _ _) | (with_reducible assumption) | (with_reducible refine Below.alloc ?_ ?_ _) | (with_reducible refine Below.drew ?_) | (with_reducible refine Below.setCell ?_ ?_ _) | (with_reducible refine Below.stepB (by assumption) ?_ ?_) | go_size))).mono ?_
      rintro e w5 ⟨rfl, hbw5⟩
      obtain ⟨hzw5, hcw5, hfw5⟩ := bfacts hbw5; (try simp at hzw5 hcw5 hfw5); (try (have : w.heap.size < w5.heap.size := by omega)); (try (have : w.heap.size + 1 < w5.heap.size := by omega)); (try (have : w.heap.size + 1 + 1 < w5.heap.size := by omega)); (try (have : w.heap.size + 1 + 1 + 1 < w5.heap.size := by omega))
      have HW5 := Lib.hid (show Below w1.heap.size w1 w5 from by repeat' (first | (with_reducible exact Below.refl _ _) | (with_reducible assumption) | (with_reducible refine Below.alloc ?_ ?_ _) | (with_reducible refine Below.drew ?_) | (with_reducible refine Below.setCell ?_ ?_ _) | (with_reducible refine Below.stepB (by assumption) ?_ ?_) | go_size))
      have HO5 := Lib.hid (((HO2.out.below hbw3).below hbw4).below hbw5)
      have HB5 := Lib.hid (HB1.out.trans (HW5.out.mono hz1))
      have hz5 := HB5.out.size
      have hz15 := HW5.out.size
      clear HO2 HA2 HA3 hbw2 hbw3 hbw4 hbw5 hcw2 hcw3 hcw4 hcw5 hfw2 hfw3 hfw4 hfw5 hzw2 hzw3 hzw4 hzw5
      go_upto_if 183 with fail
      go_cut [26] (fun v26 wx => Below w5.heap.size w5 wx)
      case first =>
        cases okA
        · go_wp2_with fail
          go_meet
          exact Below.refl _ _
        · have hgood : goodEd marks f m = true := HGA.out.symm
          have hcg := cln_good hgood
          obtain ⟨bX, rfl⟩ := HX2.out rfl
          have hcn : cn = (liveN f m).length := HCN.out
          subst hcn
          have hSX := HO5.out.sl
          have h4 := fun W (hb : Below w5.heap.size w5 W) => AcceptedAfter_any marks (some ⟨b1, 0, none⟩) m c1 f W (HS1.out.below (HW5.out.trans (hb.mono hz15))) (by omega)
          have h5 := fun W (hb : Below w5.heap.size w5 W) => ShiftsAfter_any marks (some ⟨b1, 0, none⟩) m c1 f W (HS1.out.below (HW5.out.trans (hb.mono hz15))) (by omega)
          have h6 := fun W (hb : Below w5.heap.size w5 W) => AcceptedAfter_any marks (some ⟨bX, 0, none⟩) (liveN f m).length c2 (clnF f (liveN f m)) W (Sl.below hSX hb) (by omega)
          have h7 := fun W (hb : Below w5.heap.size w5 W) => ShiftsAfter_any marks (some ⟨bX, 0, none⟩) (liveN f m).length c2 (clnF f (liveN f m)) W (Sl.below hSX hb) (by omega)
          have hM15 := (goodEd_bd hgood).1.2
          have hM := (show cntN true marks.toNat ≤ 1048576 by have := cntN_le true marks.toNat; omega)
          rw [hgood] at h4 h5
          rw [hcg] at h6 h7
          rw [show (fun i : Nat => Value.bool (accV (clnF f (liveN f m)) (liveN (clnF f (liveN f m)) (liveN f m).length) i)) = fun i : Nat => Value.bool (accV f (liveN f m) i) from funext fun i => by rw [cln_accV]] at h6
          rw [show (fun i : Nat => Value.int .i64 (shiftV (clnF f (liveN f m)) (liveN (clnF f (liveN f m)) (liveN f m).length) i)) = fun i : Nat => Value.int .i64 (shiftV f (liveN f m) i) from funext fun i => by rw [cln_shiftV]] at h7
          have HA4 := Lib.hid h4
          have HA5 := Lib.hid h5
          have HA6 := Lib.hid h6
          have HA7 := Lib.hid h7
          clear h4 h5 h6 h7 hgood hcg hSX hM15 HCN
          go_wp2_with fail
          refine (HA4.out _ (Below.refl _ _)).mono ?_
          rintro e w6 ⟨A6, c6, rfl, hO6, hbw6⟩
          obtain ⟨hzw6, hcw6, hfw6⟩ := bfacts hbw6; (try simp at hzw6 hcw6 hfw6); (try (have : w.heap.size < w6.heap.size := by omega)); (try (have : w.heap.size + 1 < w6.heap.size := by omega)); (try (have : w.heap.size + 1 + 1 < w6.heap.size := by omega)); (try (have : w.heap.size + 1 + 1 + 1 < w6.heap.size := by omega))
          have HO6 := Lib.hid hO6
          clear hO6
          go_wp2_with fail
          refine (HA6.out _ (by repeat' (first | (with_reducible exact Below.refl _ _) | (with_reducible assumption) | (with_reducible refine Below.alloc ?_ ?_ _) | (with_reducible refine Below.drew ?_) | (with_reducible refine Below.setCell ?_ ?_ _) | (with_reducible refine Below.stepB (by assumption) ?_ ?_) | go_size))).mono ?_
          rintro e w7 ⟨A7, c7, rfl, hO7, hbw7⟩
          obtain ⟨hzw7, hcw7, hfw7⟩ := bfacts hbw7; (try simp at hzw7 hcw7 hfw7); (try (have : w.heap.size < w7.heap.size := by omega)); (try (have : w.heap.size + 1 < w7.heap.size := by omega)); (try (have : w.heap.size + 1 + 1 < w7.heap.size := by omega)); (try (have : w.heap.size + 1 + 1 + 1 < w7.heap.size := by omega))
          have HO7 := Lib.hid hO7
          clear hO7
          go_wp2_with fail
          refine (HA5.out _ (by repeat' (first | (with_reducible exact Below.refl _ _) | (with_reducible assumption) | (with_reducible refine Below.alloc ?_ ?_ _) | (with_reducible refine Below.drew ?_) | (with_reducible refine Below.setCell ?_ ?_ _) | (with_reducible refine Below.stepB (by assumption) ?_ ?_) | go_size))).mono ?_
          rintro e w8 ⟨A8, c8, rfl, hO8, hbw8⟩
          obtain ⟨hzw8, hcw8, hfw8⟩ := bfacts hbw8; (try simp at hzw8 hcw8 hfw8); (try (have : w.heap.size < w8.heap.size := by omega)); (try (have : w.heap.size + 1 < w8.heap.size := by omega)); (try (have : w.heap.size + 1 + 1 < w8.heap.size := by omega)); (try (have : w.heap.size + 1 + 1 + 1 < w8.heap.size := by omega))
          have HO8 := Lib.hid hO8
          clear hO8
          go_wp2_with fail
          refine (HA7.out _ (by repeat' (first | (with_reducible exact Below.refl _ _) | (with_reducible assumption) | (with_reducible refine Below.alloc ?_ ?_ _) | (with_reducible refine Below.drew ?_) | (with_reducible refine Below.setCell ?_ ?_ _) | (with_reducible refine Below.stepB (by assumption) ?_ ?_) | go_size))).mono ?_
          rintro e w9 ⟨A9, c9, rfl, hO9, hbw9⟩
          obtain ⟨hzw9, hcw9, hfw9⟩ := bfacts hbw9; (try simp at hzw9 hcw9 hfw9); (try (have : w.heap.size < w9.heap.size := by omega)); (try (have : w.heap.size + 1 < w9.heap.size := by omega)); (try (have : w.heap.size + 1 + 1 < w9.heap.size := by omega)); (try (have : w.heap.size + 1 + 1 + 1 < w9.heap.size := by omega))
          have HO9 := Lib.hid hO9
          clear hO9
          go_wp2_with fail
          refine (rBools_same _ _ _ _ _ (fun i => accV f (liveN f m) i) _ (((HO6.out.below hbw7).below hbw8).below hbw9).sl ((HO7.out.below hbw8).below hbw9).sl hM).mono ?_
          rintro e w10 ⟨rfl, hbw10⟩
          obtain ⟨hzw10, hcw10, hfw10⟩ := bfacts hbw10; (try simp at hzw10 hcw10 hfw10); (try (have : w.heap.size < w10.heap.size := by omega)); (try (have : w.heap.size + 1 < w10.heap.size := by omega)); (try (have : w.heap.size + 1 + 1 < w10.heap.size := by omega)); (try (have : w.heap.size + 1 + 1 + 1 < w10.heap.size := by omega))
          go_wp2_with fail
          refine (rInts_same _ _ _ _ _ (fun i => shiftV f (liveN f m) i) _ ((HO8.out.below hbw9).below hbw10).sl (HO9.out.below hbw10).sl hM).mono ?_
          rintro e w11 ⟨rfl, hbw11⟩
          obtain ⟨hzw11, hcw11, hfw11⟩ := bfacts hbw11; (try simp at hzw11 hcw11 hfw11); (try (have : w.heap.size < w11.heap.size := by omega)); (try (have : w.heap.size + 1 < w11.heap.size := by omega)); (try (have : w.heap.size + 1 + 1 < w11.heap.size := by omega)); (try (have : w.heap.size + 1 + 1 + 1 < w11.heap.size := by omega))
          go_wp2_with fail
          go_meet
          repeat' (first | (with_reducible exact Below.refl _ _) | (with_reducible assumption) | (with_reducible refine Below.alloc ?_ ?_ _) | (with_reducible refine Below.drew ?_) | (with_reducible refine Below.setCell ?_ ?_ _) | (with_reducible refine Below.stepB (by assumption) ?_ ?_) | go_size)
      have HB6 := Lib.hid (HB5.out.trans (hcut.mono hz5))
      have hzd := HB6.out.size
      try clear hcut; try clear HO5; try clear HX2; try clear HGA; try clear HCN; try clear HS1; try clear HW5; try clear HB5; try clear HB1; try clear hz5; try clear hz15; try clear hle; try clear hm; try clear hmc; try clear hz1; try clear hzc
      as_aux_lemma =>
        go_wp2_with fail
        refine (DrawAcceptedAfter_any n c A B _ HR.out (HS.out.below HB6.out) hn).mono ?_
        rintro e w1 ⟨marks, m, b1, c1, f, rfl, hm, hmc, hO, hbw1⟩
        have HS1 := Lib.hid (show SlES w1 (some ⟨b1, 0, none⟩) m f from hO.sl)
        have HB1 := Lib.hid (HB6.out.trans (hbw1.mono hzd))
        have hz1 := HB1.out.size
        clear hO hbw1
        have h1 := fun W (hb : Below w1.heap.size w1 W) => AcceptedAfter_any marks (some ⟨b1, 0, none⟩) m c1 f W (HS1.out.below hb) (by omega)
        have h2 := fun W (hb : Below w1.heap.size w1 W) => specAccepted_any marks b1 0 m c1 f W (HS1.out.below hb) hmc (by omega)
        have hle : cntN (goodEd marks f m) marks.toNat ≤ 1048576 := by
          rcases Bool.eq_false_or_eq_true (goodEd marks f m) with hg | hg
          · have := (goodEd_bd hg).1.2
            have := cntN_le (goodEd marks f m) marks.toNat
            omega
          · rw [cntN_f hg]
            omega
        generalize goodEd marks f m = okA at h1 h2 hle
        have HA1 := Lib.hid h1
        have HA2 := Lib.hid h2
        clear h1 h2
        go_wp2_with fail
        refine (HA1.out _ (Below.refl _ _)).mono ?_
        rintro e w2 ⟨A2, c2, rfl, hO2, hbw2⟩
        obtain ⟨hzw2, hcw2, hfw2⟩ := bfacts hbw2; (try simp at hzw2 hcw2 hfw2); (try (have : w.heap.size < w2.heap.size := by omega)); (try (have : w.heap.size + 1 < w2.heap.size := by omega)); (try (have : w.heap.size + 1 + 1 < w2.heap.size := by omega)); (try (have : w.heap.size + 1 + 1 + 1 < w2.heap.size := by omega))
        have HO2 := Lib.hid hO2
        clear hO2
        go_wp2_with fail
        refine (HA2.out _ (by repeat' (first | (with_reducible exact Below.refl _ _) | (with_reducible assumption) | (with_reducible refine Below.alloc ?_ ?_ _) | (with_reducible refine Below.drew ?_) | (with_reducible refine Below.setCell ?_ ?_ _) | (with_reducible refine Below.stepB (by assumption) ?_ ?_) | go_size))).mono ?_
        rintro e w3 ⟨A3, c3, rfl, hO3, hbw3⟩
        obtain ⟨hzw3, hcw3, hfw3⟩ := bfacts hbw3; (try simp at hzw3 hcw3 hfw3); (try (have : w.heap.size < w3.heap.size := by omega)); (try (have : w.heap.size + 1 < w3.heap.size := by omega)); (try (have : w.heap.size + 1 + 1 < w3.heap.size := by omega)); (try (have : w.heap.size + 1 + 1 + 1 < w3.heap.size := by omega))
        go_wp2_with fail
        refine (rBools_same _ _ _ _ _ (fun i => accV f (liveN f m) i) _ (Own.sl (HO2.out.below hbw3)) hO3.sl hle).mono ?_
        rintro e w4 ⟨rfl, hbw4⟩
        obtain ⟨hzw4, hcw4, hfw4⟩ := bfacts hbw4; (try simp at hzw4 hcw4 hfw4); (try (have : w.heap.size < w4.heap.size := by omega)); (try (have : w.heap.size + 1 < w4.heap.size := by omega)); (try (have : w.heap.size + 1 + 1 < w4.heap.size := by omega)); (try (have : w.heap.size + 1 + 1 + 1 < w4.heap.size := by omega))
        have HB4 := Lib.hid (HB1.out.trans ((show Below w1.heap.size w1 w4 from by repeat' (first | (with_reducible exact Below.refl _ _) | (with_reducible assumption) | (with_reducible refine Below.alloc ?_ ?_ _) | (with_reducible refine Below.drew ?_) | (with_reducible refine Below.setCell ?_ ?_ _) | (with_reducible refine Below.stepB (by assumption) ?_ ?_) | go_size)).mono hz1))
        have hz4 := HB4.out.size
        clear hO3 HO2 HA1 HA2 hbw2 hbw3 hbw4 hcw2 hcw3 hcw4 hfw2 hfw3 hfw4 hzw2 hzw3 hzw4 HB1 hz1 HS1 hle hm hmc
        go_wp2_with fail
        refine (DrawShiftsAfter_any n c A B _ HR.out (HS.out.below HB4.out) hn).mono ?_
        rintro e w1 ⟨marks, m, b1, c1, f, rfl, hm, hmc, hO, hbw1⟩
        have HS1 := Lib.hid (show SlES w1 (some ⟨b1, 0, none⟩) m f from hO.sl)
        have HB1 := Lib.hid (HB4.out.trans (hbw1.mono hz4))
        have hz1 := HB1.out.size
        clear hO hbw1
        have h1 := fun W (hb : Below w1.heap.size w1 W) => ShiftsAfter_any marks (some ⟨b1, 0, none⟩) m c1 f W (HS1.out.below hb) (by omega)
        have h2 := fun W (hb : Below w1.heap.size w1 W) => specShifts_any marks b1 0 m c1 f W (HS1.out.below hb) hmc (by omega)
        have hle : cntN (goodEd marks f m) marks.toNat ≤ 1048576 := by
          rcases Bool.eq_false_or_eq_true (goodEd marks f m) with hg | hg
          · have := (goodEd_bd hg).1.2
            have := cntN_le (goodEd marks f m) marks.toNat
            omega
          · rw [cntN_f hg]
            omega
        generalize goodEd marks f m = okA at h1 h2 hle
        have HA1 := Lib.hid h1
        have HA2 := Lib.hid h2
        clear h1 h2
        go_wp2_with fail
        refine (HA1.out _ (Below.refl _ _)).mono ?_
        rintro e w2 ⟨A2, c2, rfl, hO2, hbw2⟩
        obtain ⟨hzw2, hcw2, hfw2⟩ := bfacts hbw2; (try simp at hzw2 hcw2 hfw2); (try (have : w.heap.size < w2.heap.size := by omega)); (try (have : w.heap.size + 1 < w2.heap.size := by omega)); (try (have : w.heap.size + 1 + 1 < w2.heap.size := by omega)); (try (have : w.heap.size + 1 + 1 + 1 < w2.heap.size := by omega))
        have HO2 := Lib.hid hO2
        clear hO2
        go_wp2_with fail
        refine (HA2.out _ (by repeat' (first | (with_reducible exact Below.refl _ _) | (with_reducible assumption) | (with_reducible refine Below.alloc ?_ ?_ _) | (with_reducible refine Below.drew ?_) | (with_reducible refine Below.setCell ?_ ?_ _) | (with_reducible refine Below.stepB (by assumption) ?_ ?_) | go_size))).mono ?_
        rintro e w3 ⟨A3, c3, rfl, hO3, hbw3⟩
        obtain ⟨hzw3, hcw3, hfw3⟩ := bfacts hbw3; (try simp at hzw3 hcw3 hfw3); (try (have : w.heap.size < w3.heap.size := by omega)); (try (have : w.heap.size + 1 < w3.heap.size := by omega)); (try (have : w.heap.size + 1 + 1 < w3.heap.size := by omega)); (try (have : w.heap.size + 1 + 1 + 1 < w3.heap.size := by omega))
        go_wp2_with fail
        refine (rInts_same _ _ _ _ _ (fun i => shiftV f (liveN f m) i) _ (Own.sl (HO2.out.below hbw3)) hO3.sl hle).mono ?_
        rintro e w5 ⟨rfl, hbw5⟩
        obtain ⟨hzw5, hcw5, hfw5⟩ := bfacts hbw5; (try simp at hzw5 hcw5 hfw5); (try (have : w.heap.size < w5.heap.size := by omega)); (try (have : w.heap.size + 1 < w5.heap.size := by omega)); (try (have : w.heap.size + 1 + 1 < w5.heap.size := by omega)); (try (have : w.heap.size + 1 + 1 + 1 < w5.heap.size := by omega))
        have HB7 := Lib.hid (HB1.out.trans ((show Below w1.heap.size w1 w5 from by repeat' (first | (with_reducible exact Below.refl _ _) | (with_reducible assumption) | (with_reducible refine Below.alloc ?_ ?_ _) | (with_reducible refine Below.drew ?_) | (with_reducible refine Below.setCell ?_ ?_ _) | (with_reducible refine Below.stepB (by assumption) ?_ ?_) | go_size)).mono hz1))
        go_wp2
        go_ret
        exact ⟨rfl, HB7.out⟩
  · have hbig : decide (65536 < (n : Int)) = true := decide_eq_true (by omega)
    clear hS hR
    go_enter Try.func3, Try.ntmps3
    go_wp2_with (go_at_call 5; refine (rBig_any A n c _).mono ?_; rintro e w' ⟨rfl, rfl⟩)
    go_ret
    exact ⟨rfl, Below.refl _ _⟩
end Go.Proofs.Ytbgpmbaonjehbaa
