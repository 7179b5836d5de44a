/- The law on the counts of letters, over the contracts. -/
import Derived.Test.YtfecepjdjikenaaCntS
import Derived.Test.YtfecepjdjikenaaMrk
import Derived.Test.YtfecepjdjikenaaMark
namespace Go.Proofs.Ytfecepjdjikenaa
open Go.RowKit
/-- what the counts are, or nothing -/
def Cnts (q : Bool) (f : Nat → BS) (n : Nat) (D : List (List UInt8)) (C : List Int) : Prop := q = true ∧ CntOk (· < ·) (lettN f n) D C ∨ q = false ∧ D = [] ∧ C = []
theorem LetterCounts_any (A : Option Addr) (n c : Nat) (f : Nat → BS) (w : World) (hS : SlS w A n f) (hn : n ≤ 1048576) :
    Calls Try.prog 43 #[.slice A n c] w fun e w' => ∃ D C, Cnts (cntsOk f n) f n D C ∧ D.length ≤ n ∧ CntOut w D C (cntsOk f n) e w' := by
  rcases Bool.eq_false_or_eq_true (cntsOk f n) with h | h
  · refine (LetterCounts_yes A n c f w hS hn h).mono ?_
    rintro e w' ⟨D, C, h1, h2, h3⟩
    rw [h]
    exact ⟨D, C, .inl ⟨rfl, h1⟩, h2, h3⟩
  · refine (LetterCounts_no A n c f w hS hn h).mono ?_
    intro e w' h3
    rw [h]
    exact ⟨[], [], .inr ⟨rfl, rfl, rfl⟩, Nat.zero_le _, h3⟩
theorem specCounts_any (A : Option Addr) (n c : Nat) (f : Nat → BS) (w : World) (hS : SlS w A n f) (hn : n ≤ 1048576) :
    Calls Try.prog 42 #[.slice A n c] w fun e w' => ∃ D C, Cnts (cntsOk f n) f n D C ∧ D.length ≤ n ∧ CntOut w D C (cntsOk f n) e w' := by
  rcases Bool.eq_false_or_eq_true (cntsOk f n) with h | h
  · refine (specCounts_yes A n c f w hS hn h).mono ?_
    rintro e w' ⟨D, C, h1, h2, h3⟩
    rw [h]
    exact ⟨D, C, .inl ⟨rfl, h1⟩, h2, h3⟩
  · refine (specCounts_no A n c f w hS hn h).mono ?_
    intro e w' h3
    rw [h]
    exact ⟨[], [], .inr ⟨rfl, rfl, rfl⟩, Nat.zero_le _, h3⟩
theorem cnts_one {q : Bool} {f : Nat → BS} {n : Nat} {D D' : List (List UInt8)} {C C' : List Int} (h : Cnts q f n D C) (h' : Cnts q f n D' C') : D = D' ∧ C = C' := by
  rcases h with ⟨h0, h⟩ | ⟨h0, rfl, rfl⟩ <;> rcases h' with ⟨h1, h'⟩ | ⟨h1, rfl, rfl⟩
  · exact cnt_same ltS_irr ltS_tr (List.Perm.refl _) h h'
  · rw [h0] at h1; cases h1
  · rw [h0] at h1; cases h1
  · exact ⟨rfl, rfl⟩
theorem cnts_len {q : Bool} {f : Nat → BS} {n : Nat} {D : List (List UInt8)} {C : List Int} (h : Cnts q f n D C) : C.length = D.length := by
  rcases h with ⟨_, h⟩ | ⟨_, rfl, rfl⟩
  · exact cnt_len h
  · rfl
theorem cnts_12 {q : Bool} {f : Nat → BS} {n : Nat} {D : List (List UInt8)} {C : List Int} (hq : q = true → n ≤ 12) (h : Cnts q f n D C) (hD : D.length ≤ n) : D.length ≤ 12 := by
  rcases h with ⟨h, _⟩ | ⟨_, rfl, _⟩
  · have := hq h
    omega
  · simp
theorem Own.keptNe {w w' : World} {A A' : Option Addr} {n n' lo k : Nat} {g : Nat → Nat → Value} (h : Own w lo k A n g) (hk : Kept w w' A' n') (hne : ∀ a a', 0 < n → 0 < n' → A = some a → A' = some a' → a.block ≠ a'.block) : Own w' lo k A n g := fun hn => by
  obtain ⟨b, t, cs, hA, hl, hB, hs, hc⟩ := h hn
  exact ⟨b, t, cs, hA, hl, (hk.block b hB.lt fun hn' a ha => hne _ a hn hn' hA ha).trans hB, hs, hc⟩
set_option maxHeartbeats 2000000 in
theorem law_LetterCounts (A : Option Addr) (n c : Nat) (f : Nat → BS) (w : World) (hS : SlS w A n f) (hm : n ≤ 9223372036854775807) : Calls Try.prog 12 #[.slice A n c] w
    fun e w' => e = .returned (.bool true) ∧ Below w.heap.size w w' := by
  have HS := Lib.hid hS
  clear hS
  by_cases hn : n ≤ 1048576
  · have h12 : cntsOk f n = true → n ≤ 12 := fun h => (by simpa [cntsOk] using h : goodUpto f n = true ∧ n ≤ 12).2
    have h1 := fun A' W (hS : SlS W A' n f) => specCounts_any A' n n f W hS hn
    have h2 := fun A' W (hS : SlS W A' n f) => LetterCounts_any A' n n f W hS hn
    generalize cntsOk f n = okk at h12 h1 h2
    have H12 := Lib.hid h12
    have H1 := Lib.hid h1
    have H2 := Lib.hid h2
    clear h12 h1 h2
    go_enter Try.func12, Try.ntmps12
    go_wp2_with (go_at_call 22; refine (sz_yes A n c _ hn).mono ?_; rintro e w' ⟨rfl, rfl⟩)
    go_wp2_with fail
    refine (toBottomSampleS_ex A n c f _ (HS.out.below (by repeat' (first | (with_reducible exact Below.refl _ _) | (with_reducible assumption) | (with_reducible refine Below.alloc ?_ ?_ _) | (with_reducible refine Below.drew ?_) | (with_reducible refine Below.setCell ?_ ?_ _) | (with_reducible refine Below.stepB (by assumption) ?_ ?_) | go_size))) hn).mono ?_
    rintro e w1 ⟨b1, rfl, hO1, hbw1⟩
    obtain ⟨hzw1, hcw1, hfw1⟩ := bfacts hbw1; (try simp at hzw1 hcw1 hfw1); (try (have : w.heap.size < w1.heap.size := by omega)); (try (have : w.heap.size + 1 < w1.heap.size := by omega)); (try (have : w.heap.size + 1 + 1 < w1.heap.size := by omega)); (try (have : w.heap.size + 1 + 1 + 1 < w1.heap.size := by omega))
    go_wp2_with fail
    refine (H1.out _ _ hO1.sl).mono ?_
    rintro e w3 ⟨D, C, hDC, hDn, A1, c1, A1', c1', rfl, OW, OW', -, hbw3⟩
    obtain ⟨hzw3, hcw3, hfw3⟩ := bfacts hbw3; (try simp at hzw3 hcw3 hfw3); (try (have : w.heap.size < w3.heap.size := by omega)); (try (have : w.heap.size + 1 < w3.heap.size := by omega)); (try (have : w.heap.size + 1 + 1 < w3.heap.size := by omega)); (try (have : w.heap.size + 1 + 1 + 1 < w3.heap.size := by omega))
    go_wp2_with fail
    refine (toBottomSampleS_ex A n c f _ (HS.out.below (by repeat' (first | (with_reducible exact Below.refl _ _) | (with_reducible assumption) | (with_reducible refine Below.alloc ?_ ?_ _) | (with_reducible refine Below.drew ?_) | (with_reducible refine Below.setCell ?_ ?_ _) | (with_reducible refine Below.stepB (by assumption) ?_ ?_) | go_size))) hn).mono ?_
    rintro e w4 ⟨b4, rfl, hO4, hbw4⟩
    obtain ⟨hzw4, hcw4, hfw4⟩ := bfacts hbw4; (try simp at hzw4 hcw4 hfw4); (try (have : w.heap.size < w4.heap.size := by omega)); (try (have : w.heap.size + 1 < w4.heap.size := by omega)); (try (have : w.heap.size + 1 + 1 < w4.heap.size := by omega)); (try (have : w.heap.size + 1 + 1 + 1 < w4.heap.size := by omega))
    go_wp2_with fail
    refine (H2.out _ _ hO4.sl).mono ?_
    rintro e w5 ⟨D2, C2, hDC2, -, A2, c2, A2', c2', rfl, OG, OG', hdg, hbw5⟩
    obtain ⟨hzw5, hcw5, hfw5⟩ := bfacts hbw5; (try simp at hzw5 hcw5 hfw5); (try (have : w.heap.size < w5.heap.size := by omega)); (try (have : w.heap.size + 1 < w5.heap.size := by omega)); (try (have : w.heap.size + 1 + 1 < w5.heap.size := by omega)); (try (have : w.heap.size + 1 + 1 + 1 < w5.heap.size := by omega))
    obtain ⟨rfl, rfl⟩ := cnts_one hDC hDC2
    have hl := cnts_len hDC
    have HDC := Lib.hid hDC
    have hD12 := cnts_12 H12.out hDC hDn
    have hRD := Lib.hid (show D.length ≤ 1048576 by omega)
    have hRC := Lib.hid (show C.length ≤ 1048576 by omega)
    have hRC2 := Lib.hid (show C.length ≤ 12 by omega)
    clear hDC hDC2 hl
    have HDG := Lib.hid hdg
    have HOG := Lib.hid OG
    have HOG' := Lib.hid OG'
    have hWr := OW.range
    have hWr' := OW'.range
    have hXr := hO4.range
    have hGr := OG.range
    have hGr' := OG'.range
    clear hdg
    go_wp2_with fail
    refine (eqStringS_same _ _ _ _ _ _ _ OG.sl (OW.below (by repeat' (first | (with_reducible exact Below.refl _ _) | (with_reducible assumption) | (with_reducible refine Below.alloc ?_ ?_ _) | (with_reducible refine Below.drew ?_) | (with_reducible refine Below.setCell ?_ ?_ _) | (with_reducible refine Below.stepB (by assumption) ?_ ?_) | go_size))).sl hRD.out).mono ?_
    rintro e w6 ⟨rfl, hbw6⟩
    obtain ⟨hzw6, hcw6, hfw6⟩ := bfacts hbw6; (try simp at hzw6 hcw6 hfw6); (try (have : w.heap.size < w6.heap.size := by omega)); (try (have : w.heap.size + 1 < w6.heap.size := by omega)); (try (have : w.heap.size + 1 + 1 < w6.heap.size := by omega)); (try (have : w.heap.size + 1 + 1 + 1 < w6.heap.size := by omega))
    go_wp2_with fail
    refine (eqIntS_same _ _ _ _ _ _ _ (OG'.below (by repeat' (first | (with_reducible exact Below.refl _ _) | (with_reducible assumption) | (with_reducible refine Below.alloc ?_ ?_ _) | (with_reducible refine Below.drew ?_) | (with_reducible refine Below.setCell ?_ ?_ _) | (with_reducible refine Below.stepB (by assumption) ?_ ?_) | go_size))).sl (OW'.below (by repeat' (first | (with_reducible exact Below.refl _ _) | (with_reducible assumption) | (with_reducible refine Below.alloc ?_ ?_ _) | (with_reducible refine Below.drew ?_) | (with_reducible refine Below.setCell ?_ ?_ _) | (with_reducible refine Below.stepB (by assumption) ?_ ?_) | go_size))).sl hRC.out).mono ?_
    rintro e w7 ⟨rfl, hbw7⟩
    obtain ⟨hzw7, hcw7, hfw7⟩ := bfacts hbw7; (try simp at hzw7 hcw7 hfw7); (try (have : w.heap.size < w7.heap.size := by omega)); (try (have : w.heap.size + 1 < w7.heap.size := by omega)); (try (have : w.heap.size + 1 + 1 < w7.heap.size := by omega)); (try (have : w.heap.size + 1 + 1 + 1 < w7.heap.size := by omega))
    cases okk
    all_goals
      go_wp2_with fail
      refine (toBottomSampleS_ex A n c f _ (HS.out.below (by repeat' (first | (with_reducible exact Below.refl _ _) | (with_reducible assumption) | (with_reducible refine Below.alloc ?_ ?_ _) | (with_reducible refine Below.drew ?_) | (with_reducible refine Below.setCell ?_ ?_ _) | (with_reducible refine Below.stepB (by assumption) ?_ ?_) | go_size))) hn).mono ?_
      rintro e w8 ⟨b8, rfl, hO8, hbw8⟩
      obtain ⟨hzw8, hcw8, hfw8⟩ := bfacts hbw8; (try simp at hzw8 hcw8 hfw8); (try (have : w.heap.size < w8.heap.size := by omega)); (try (have : w.heap.size + 1 < w8.heap.size := by omega)); (try (have : w.heap.size + 1 + 1 < w8.heap.size := by omega)); (try (have : w.heap.size + 1 + 1 + 1 < w8.heap.size := by omega))
      go_wp2_with fail
      refine (eqBottomSampleS_same _ _ n n n f _ (hO4.below (by repeat' (first | (with_reducible exact Below.refl _ _) | (with_reducible assumption) | (with_reducible refine Below.alloc ?_ ?_ _) | (with_reducible refine Below.drew ?_) | (with_reducible refine Below.setCell ?_ ?_ _) | (with_reducible refine Below.stepB (by assumption) ?_ ?_) | go_size))).sl hO8.sl hn).mono ?_
      rintro e w9 ⟨rfl, hbw9⟩
      obtain ⟨hzw9, hcw9, hfw9⟩ := bfacts hbw9; (try simp at hzw9 hcw9 hfw9); (try (have : w.heap.size < w9.heap.size := by omega)); (try (have : w.heap.size + 1 < w9.heap.size := by omega)); (try (have : w.heap.size + 1 + 1 < w9.heap.size := by omega)); (try (have : w.heap.size + 1 + 1 + 1 < w9.heap.size := by omega))
      have OW9 := OW.below (w' := w9) (by repeat' (first | (with_reducible exact Below.refl _ _) | (with_reducible assumption) | (with_reducible refine Below.alloc ?_ ?_ _) | (with_reducible refine Below.drew ?_) | (with_reducible refine Below.setCell ?_ ?_ _) | (with_reducible refine Below.stepB (by assumption) ?_ ?_) | go_size))
      have OV9 := OW'.below (w' := w9) (by repeat' (first | (with_reducible exact Below.refl _ _) | (with_reducible assumption) | (with_reducible refine Below.alloc ?_ ?_ _) | (with_reducible refine Below.drew ?_) | (with_reducible refine Below.setCell ?_ ?_ _) | (with_reducible refine Below.stepB (by assumption) ?_ ?_) | go_size))
      have OG9 := HOG.out.below (w' := w9) (by repeat' (first | (with_reducible exact Below.refl _ _) | (with_reducible assumption) | (with_reducible refine Below.alloc ?_ ?_ _) | (with_reducible refine Below.drew ?_) | (with_reducible refine Below.setCell ?_ ?_ _) | (with_reducible refine Below.stepB (by assumption) ?_ ?_) | go_size))
      have OH9 := HOG'.out.below (w' := w9) (by repeat' (first | (with_reducible exact Below.refl _ _) | (with_reducible assumption) | (with_reducible refine Below.alloc ?_ ?_ _) | (with_reducible refine Below.drew ?_) | (with_reducible refine Below.setCell ?_ ?_ _) | (with_reducible refine Below.stepB (by assumption) ?_ ?_) | go_size))
      go_wp2_with fail
      refine (markBottomSampleS_any _ n n _ _ _ (hO4.below (by repeat' (first | (with_reducible exact Below.refl _ _) | (with_reducible assumption) | (with_reducible refine Below.alloc ?_ ?_ _) | (with_reducible refine Below.drew ?_) | (with_reducible refine Below.setCell ?_ ?_ _) | (with_reducible refine Below.stepB (by assumption) ?_ ?_) | go_size))) hn 1 (by decide) (by decide)).mono ?_
      rintro e w10 ⟨rfl, hO10, hkw10⟩
      have hbw10 := hkw10.below hXr (Nat.le_refl _) (by omega)
      have hzw10 := hbw10.size
      have OW10 := OW9.kept hkw10 hWr hXr (.inl (by omega))
      have OV10 := OV9.kept hkw10 hWr' hXr (.inl (by omega))
      have OG10 := OG9.kept hkw10 hGr hXr (.inr (by omega))
      have OH10 := OH9.kept hkw10 hGr' hXr (.inr (by omega))
      clear OW9 OV9 OG9 OH9 hO10
      go_wp2_with fail
      refine (eqStringS_same _ _ _ _ _ _ _ OG10.sl OW10.sl hRD.out).mono ?_
      rintro e w11 ⟨rfl, hbw11⟩
      obtain ⟨hzw11, hcw11, hfw11⟩ := bfacts hbw11; (try simp at hzw11 hcw11 hfw11); (try (have : w.heap.size < w11.heap.size := by omega)); (try (have : w.heap.size + 1 < w11.heap.size := by omega)); (try (have : w.heap.size + 1 + 1 < w11.heap.size := by omega)); (try (have : w.heap.size + 1 + 1 + 1 < w11.heap.size := by omega))
      go_wp2_with fail
      refine (eqIntS_same _ _ _ _ _ _ _ (Own.below OH10 hbw11).sl (Own.below OV10 hbw11).sl hRC.out).mono ?_
      rintro e w12 ⟨rfl, hbw12⟩
      obtain ⟨hzw12, hcw12, hfw12⟩ := bfacts hbw12; (try simp at hzw12 hcw12 hfw12); (try (have : w.heap.size < w12.heap.size := by omega)); (try (have : w.heap.size + 1 < w12.heap.size := by omega)); (try (have : w.heap.size + 1 + 1 < w12.heap.size := by omega)); (try (have : w.heap.size + 1 + 1 + 1 < w12.heap.size := by omega))
      have hb12 := hbw11.trans (hbw12.mono hbw11.size)
      have OW12 := OW10.below hb12
      have OV12 := OV10.below hb12
      have OG12 := OG10.below hb12
      have OH12 := OH10.below hb12
      clear OW10 OV10 OG10 OH10 hb12
      go_wp2_with fail
      refine (markStringS_any _ _ _ _ _ _ OG12 (by omega) 1 (by decide) (by decide)).mono ?_
      rintro e w13 ⟨rfl, OG13, hkw13⟩
      have hbw13 := hkw13.below hGr (Nat.le_refl _) (by omega)
      have hzw13 := hbw13.size
      have OW13 := OW12.kept hkw13 hWr hGr (.inl (by omega))
      have OV13 := OV12.kept hkw13 hWr' hGr (.inl (by omega))
      have OH13 := Own.keptNe OH12 hkw13 (fun a a' h1 h2 h3 h4 h5 => HDG.out a' a h2 h1 h4 h3 h5.symm)
      clear OW12 OV12 OG12 OH12
      go_wp2_with fail
      refine (markIntS_any _ _ _ _ _ _ OH13 hRC.out _ (by omega) (by omega)).mono ?_
      rintro e w14 ⟨rfl, OH14, hkw14⟩
      have hbw14 := hkw14.below hGr' (Nat.le_refl _) (by omega)
      have hzw14 := hbw14.size
      have OW14 := OW13.kept hkw14 hWr hGr' (.inl (by omega))
      have OV14 := OV13.kept hkw14 hWr' hGr' (.inl (by omega))
      have OG14 := Own.keptNe OG13 hkw14 (fun a a' h1 h2 h3 h4 => HDG.out a a' h1 h2 h3 h4)
      clear OW13 OV13 OG13 OH13
      go_wp2_with fail
      refine (heldStringS_any _ _ _ _ 1 OG14.sl (by omega) (by decide) (by decide)).mono ?_
      rintro e w15 ⟨rfl, hbw15⟩
      obtain ⟨hzw15, hcw15, hfw15⟩ := bfacts hbw15; (try simp at hzw15 hcw15 hfw15); (try (have : w.heap.size < w15.heap.size := by omega)); (try (have : w.heap.size + 1 < w15.heap.size := by omega)); (try (have : w.heap.size + 1 + 1 < w15.heap.size := by omega)); (try (have : w.heap.size + 1 + 1 + 1 < w15.heap.size := by omega))
      go_wp2_with fail
      refine (heldIntS_any _ _ _ _ _ (Own.below OH14 hbw15).sl hRC.out (by omega) (by omega)).mono ?_
      rintro e w16 ⟨rfl, hbw16⟩
      obtain ⟨hzw16, hcw16, hfw16⟩ := bfacts hbw16; (try simp at hzw16 hcw16 hfw16); (try (have : w.heap.size < w16.heap.size := by omega)); (try (have : w.heap.size + 1 < w16.heap.size := by omega)); (try (have : w.heap.size + 1 + 1 < w16.heap.size := by omega)); (try (have : w.heap.size + 1 + 1 + 1 < w16.heap.size := by omega))
      go_wp2_with fail
      refine (toBottomSampleS_ex A n c f _ (HS.out.below (by repeat' (first | (with_reducible exact Below.refl _ _) | (with_reducible assumption) | (with_reducible refine Below.alloc ?_ ?_ _) | (with_reducible refine Below.drew ?_) | (with_reducible refine Below.setCell ?_ ?_ _) | (with_reducible refine Below.stepB (by assumption) ?_ ?_) | go_size))) hn).mono ?_
      rintro e w17 ⟨b17, rfl, hO17, hbw17⟩
      obtain ⟨hzw17, hcw17, hfw17⟩ := bfacts hbw17; (try simp at hzw17 hcw17 hfw17); (try (have : w.heap.size < w17.heap.size := by omega)); (try (have : w.heap.size + 1 < w17.heap.size := by omega)); (try (have : w.heap.size + 1 + 1 < w17.heap.size := by omega)); (try (have : w.heap.size + 1 + 1 + 1 < w17.heap.size := by omega))
      go_wp2_with fail
      refine (H2.out _ _ hO17.sl).mono ?_
      rintro e w18 ⟨D3, C3, hDC3, -, A3, c3, A3', c3', rfl, OH, OI, -, hbw18⟩
      obtain ⟨hzw18, hcw18, hfw18⟩ := bfacts hbw18; (try simp at hzw18 hcw18 hfw18); (try (have : w.heap.size < w18.heap.size := by omega)); (try (have : w.heap.size + 1 < w18.heap.size := by omega)); (try (have : w.heap.size + 1 + 1 < w18.heap.size := by omega)); (try (have : w.heap.size + 1 + 1 + 1 < w18.heap.size := by omega))
      obtain ⟨rfl, rfl⟩ := cnts_one HDC.out hDC3
      clear hDC3
      go_wp2_with fail
      refine (eqStringS_same _ _ _ _ _ _ _ OH.sl (OW14.below (by repeat' (first | (with_reducible exact Below.refl _ _) | (with_reducible assumption) | (with_reducible refine Below.alloc ?_ ?_ _) | (with_reducible refine Below.drew ?_) | (with_reducible refine Below.setCell ?_ ?_ _) | (with_reducible refine Below.stepB (by assumption) ?_ ?_) | go_size))).sl hRD.out).mono ?_
      rintro e w19 ⟨rfl, hbw19⟩
      obtain ⟨hzw19, hcw19, hfw19⟩ := bfacts hbw19; (try simp at hzw19 hcw19 hfw19); (try (have : w.heap.size < w19.heap.size := by omega)); (try (have : w.heap.size + 1 < w19.heap.size := by omega)); (try (have : w.heap.size + 1 + 1 < w19.heap.size := by omega)); (try (have : w.heap.size + 1 + 1 + 1 < w19.heap.size := by omega))
      go_wp2_with fail
      refine (eqIntS_same _ _ _ _ _ _ _ (OI.below (by repeat' (first | (with_reducible exact Below.refl _ _) | (with_reducible assumption) | (with_reducible refine Below.alloc ?_ ?_ _) | (with_reducible refine Below.drew ?_) | (with_reducible refine Below.setCell ?_ ?_ _) | (with_reducible refine Below.stepB (by assumption) ?_ ?_) | go_size))).sl (OV14.below (by repeat' (first | (with_reducible exact Below.refl _ _) | (with_reducible assumption) | (with_reducible refine Below.alloc ?_ ?_ _) | (with_reducible refine Below.drew ?_) | (with_reducible refine Below.setCell ?_ ?_ _) | (with_reducible refine Below.stepB (by assumption) ?_ ?_) | go_size))).sl hRC.out).mono ?_
      rintro e w20 ⟨rfl, hbw20⟩
      obtain ⟨hzw20, hcw20, hfw20⟩ := bfacts hbw20; (try simp at hzw20 hcw20 hfw20); (try (have : w.heap.size < w20.heap.size := by omega)); (try (have : w.heap.size + 1 < w20.heap.size := by omega)); (try (have : w.heap.size + 1 + 1 < w20.heap.size := by omega)); (try (have : w.heap.size + 1 + 1 + 1 < w20.heap.size := by omega))
      go_wp2_with fail
      refine (heldStringS_any _ _ _ _ 1 (OG14.below (by repeat' (first | (with_reducible exact Below.refl _ _) | (with_reducible assumption) | (with_reducible refine Below.alloc ?_ ?_ _) | (with_reducible refine Below.drew ?_) | (with_reducible refine Below.setCell ?_ ?_ _) | (with_reducible refine Below.stepB (by assumption) ?_ ?_) | go_size))).sl (by omega) (by decide) (by decide)).mono ?_
      rintro e w21 ⟨rfl, hbw21⟩
      obtain ⟨hzw21, hcw21, hfw21⟩ := bfacts hbw21; (try simp at hzw21 hcw21 hfw21); (try (have : w.heap.size < w21.heap.size := by omega)); (try (have : w.heap.size + 1 < w21.heap.size := by omega)); (try (have : w.heap.size + 1 + 1 < w21.heap.size := by omega)); (try (have : w.heap.size + 1 + 1 + 1 < w21.heap.size := by omega))
      go_wp2_with fail
      refine (heldIntS_any _ _ _ _ _ (OH14.below (by repeat' (first | (with_reducible exact Below.refl _ _) | (with_reducible assumption) | (with_reducible refine Below.alloc ?_ ?_ _) | (with_reducible refine Below.drew ?_) | (with_reducible refine Below.setCell ?_ ?_ _) | (with_reducible refine Below.stepB (by assumption) ?_ ?_) | go_size))).sl hRC.out (by omega) (by omega)).mono ?_
      rintro e w22 ⟨rfl, hbw22⟩
      obtain ⟨hzw22, hcw22, hfw22⟩ := bfacts hbw22; (try simp at hzw22 hcw22 hfw22); (try (have : w.heap.size < w22.heap.size := by omega)); (try (have : w.heap.size + 1 < w22.heap.size := by omega)); (try (have : w.heap.size + 1 + 1 < w22.heap.size := by omega)); (try (have : w.heap.size + 1 + 1 + 1 < w22.heap.size := by omega))
      go_wp2
      go_ret
      exact ⟨rfl, by repeat' (first | (with_reducible exact Below.refl _ _) | (with_reducible assumption) | (with_reducible refine Below.alloc ?_ ?_ _) | (with_reducible refine Below.drew ?_) | (with_reducible refine Below.setCell ?_ ?_ _) | (with_reducible refine Below.stepB (by assumption) ?_ ?_) | go_size)⟩
  · go_enter Try.func12, Try.ntmps12
    go_wp2_with (go_at_call 22; refine (sz_no A n c _ (by omega) hm).mono ?_; rintro e w' ⟨rfl, rfl⟩)
    go_ret
    exact ⟨rfl, by repeat' (first | (with_reducible exact Below.refl _ _) | (with_reducible assumption) | (with_reducible refine Below.alloc ?_ ?_ _) | (with_reducible refine Below.drew ?_) | (with_reducible refine Below.setCell ?_ ?_ _) | (with_reducible refine Below.stepB (by assumption) ?_ ?_) | go_size)⟩
end Go.Proofs.Ytfecepjdjikenaa
