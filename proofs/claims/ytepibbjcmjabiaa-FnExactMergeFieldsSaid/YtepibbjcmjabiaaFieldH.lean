/- The law on the shoal cells, over the contracts. -/
import Derived.Test.YtepibbjcmjabiaaFieldG
import Derived.Test.YtepibbjcmjabiaaFieldL
namespace Go.Proofs.Ytepibbjcmjabiaa
open Go.RowKit
theorem Kept.of_alloc {w w' : World} {A : Option Addr} {n : Nat} {o : Obj} (h : Kept (w.alloc o) w' A n) : Kept w w' A n :=
  ⟨h.os, h.tape, h.output, Nat.le_trans (by simp) h.size, fun b hb hne => (h.block b (by simp; omega) hne).trans (Below.heap_alloc w o b hb)⟩
theorem Blk.kept {w w' : World} {g : Nat} {t : TypeId} {cs : Array Value} {A : Option Addr} {n lo hi : Nat} (h : Blk w g t cs) (hk : Kept w w' A n) (hr : InR A n lo hi) (hg : g < lo ∨ hi ≤ g) : Blk w' g t cs :=
  (hk.block g h.lt (fun hn a ha => by have := hr hn a ha; omega)).trans h
theorem markField_any (r cl : Int) (A : Option Addr) (n c lo : Nat) (L : Nat → Int) (w : World) (hO : OwnI w lo A n L) (hn : n ≤ 1048576) (q : Int) (q0 : 0 ≤ q) (q1 : q ≤ 4000000000000) : Calls Try.prog 19 #[.agg #[.int .i64 r, .int .i64 cl, .slice A n c], .int .i64 q] w
    fun e w' => e = .returned (.int .i64 (q + n)) ∧ OwnI w' lo A n (fun i => q + i) ∧ Kept w w' A n := by
  have HO := Lib.hid hO
  clear hO
  go_enter Try.func19, Try.ntmps19
  go_wp2_with fail
  refine (markIntS_any A n c lo L _ (HO.out.below (by repeat' (first | (with_reducible exact Below.refl _ _) | (with_reducible assumption) | (with_reducible refine Below.alloc ?_ ?_ _) | (with_reducible refine Below.drew ?_) | (with_reducible refine Below.setCell ?_ ?_ _) | (with_reducible refine Below.stepB (by assumption) ?_ ?_) | go_size))) hn q q0 q1).mono ?_
  rintro e w1 ⟨rfl, hO1, hk⟩
  have HO1 := Lib.hid hO1
  have HK := Lib.hid hk.of_alloc
  have hz1 : w.heap.size < w1.heap.size := by have := hk.size; simp at this; omega
  clear hO1 hk
  go_wp2
  go_ret
  exact ⟨rfl, HO1.out, HK.out⟩
set_option maxHeartbeats 1000000 in
theorem law_ShoalCells (r cl : Int) (A : Option Addr) (n c : Nat) (L : Nat → Int) (lev : Int) (w : World) (hS : SlI w A n L) (hm : n ≤ 9223372036854775807) : Calls Try.prog 7 #[.agg #[.int .i64 r, .int .i64 cl, .slice A n c], .int .i64 lev] w
    fun e w' => e = .returned (.bool true) ∧ Below w.heap.size w w' := by
  have HS := Lib.hid hS
  clear hS
  by_cases hn : n ≤ 1048576
  · have hR := Lib.hid (shoalL_len r cl n L lev hn)
    go_enter Try.func7, Try.ntmps7
    go_wp2_with fail
    refine (szField_yes r cl A n c _ hn).mono ?_
    rintro e w1 ⟨rfl, hbw1⟩
    obtain ⟨hzw1, hcw1, hfw1⟩ := bfacts hbw1; (try simp at hzw1 hcw1 hfw1); (try (have : w.heap.size < w1.heap.size := by omega)); (try (have : w.heap.size + 1 < w1.heap.size := by omega)); (try (have : w.heap.size + 1 + 1 < w1.heap.size := by omega)); (try (have : w.heap.size + 1 + 1 + 1 < w1.heap.size := by omega))
    go_wp2_with fail
    refine (toField_ex r cl A n c L _ (HS.out.below (by repeat' (first | (with_reducible exact Below.refl _ _) | (with_reducible assumption) | (with_reducible refine Below.alloc ?_ ?_ _) | (with_reducible refine Below.drew ?_) | (with_reducible refine Below.setCell ?_ ?_ _) | (with_reducible refine Below.stepB (by assumption) ?_ ?_) | go_size))) hn).mono ?_
    rintro e w2 ⟨b2, rfl, hO2, hbw2⟩
    obtain ⟨hzw2, hcw2, hfw2⟩ := bfacts hbw2; (try simp at hzw2 hcw2 hfw2); (try (have : w.heap.size < w2.heap.size := by omega)); (try (have : w.heap.size + 1 < w2.heap.size := by omega)); (try (have : w.heap.size + 1 + 1 < w2.heap.size := by omega)); (try (have : w.heap.size + 1 + 1 + 1 < w2.heap.size := by omega))
    go_wp2_with fail
    refine (specShoal_any r cl _ n n L lev _ hO2.sl hn).mono ?_
    rintro e w3 ⟨Aw, cw, rfl, OW, hbw3⟩
    obtain ⟨hzw3, hcw3, hfw3⟩ := bfacts hbw3; (try simp at hzw3 hcw3 hfw3); (try (have : w.heap.size < w3.heap.size := by omega)); (try (have : w.heap.size + 1 < w3.heap.size := by omega)); (try (have : w.heap.size + 1 + 1 < w3.heap.size := by omega)); (try (have : w.heap.size + 1 + 1 + 1 < w3.heap.size := by omega))
    go_wp2_with fail
    refine (toField_ex r cl A n c L _ (HS.out.below (by repeat' (first | (with_reducible exact Below.refl _ _) | (with_reducible assumption) | (with_reducible refine Below.alloc ?_ ?_ _) | (with_reducible refine Below.drew ?_) | (with_reducible refine Below.setCell ?_ ?_ _) | (with_reducible refine Below.stepB (by assumption) ?_ ?_) | go_size))) hn).mono ?_
    rintro e w4 ⟨b4, rfl, hO4, hbw4⟩
    obtain ⟨hzw4, hcw4, hfw4⟩ := bfacts hbw4; (try simp at hzw4 hcw4 hfw4); (try (have : w.heap.size < w4.heap.size := by omega)); (try (have : w.heap.size + 1 < w4.heap.size := by omega)); (try (have : w.heap.size + 1 + 1 < w4.heap.size := by omega)); (try (have : w.heap.size + 1 + 1 + 1 < w4.heap.size := by omega))
    go_wp2_with fail
    refine (ShoalCells_any r cl _ n n L lev _ (hO4.below (by repeat' (first | (with_reducible exact Below.refl _ _) | (with_reducible assumption) | (with_reducible refine Below.alloc ?_ ?_ _) | (with_reducible refine Below.drew ?_) | (with_reducible refine Below.setCell ?_ ?_ _) | (with_reducible refine Below.stepB (by assumption) ?_ ?_) | go_size))).sl hn).mono ?_
    rintro e w5 ⟨Ag, cg, rfl, OG, hbw5⟩
    obtain ⟨hzw5, hcw5, hfw5⟩ := bfacts hbw5; (try simp at hzw5 hcw5 hfw5); (try (have : w.heap.size < w5.heap.size := by omega)); (try (have : w.heap.size + 1 < w5.heap.size := by omega)); (try (have : w.heap.size + 1 + 1 < w5.heap.size := by omega)); (try (have : w.heap.size + 1 + 1 + 1 < w5.heap.size := by omega))
    replace OG := OG.more (lo' := w4.heap.size) (by simp)
    have HOG := Lib.hid OG
    have HOW := Lib.hid OW
    have hWr := OW.range
    have hXr := hO4.range
    have hGr := OG.range
    go_wp2_with fail
    refine (eqIntA2S_same _ _ _ _ _ _ _ OG.sl (OW.below (by repeat' (first | (with_reducible exact Below.refl _ _) | (with_reducible assumption) | (with_reducible refine Below.alloc ?_ ?_ _) | (with_reducible refine Below.drew ?_) | (with_reducible refine Below.setCell ?_ ?_ _) | (with_reducible refine Below.stepB (by assumption) ?_ ?_) | go_size))).sl hR.out).mono ?_
    rintro e w6 ⟨rfl, hbw6⟩
    obtain ⟨hzw6, hcw6, hfw6⟩ := bfacts hbw6; (try simp at hzw6 hcw6 hfw6); (try (have : w.heap.size < w6.heap.size := by omega)); (try (have : w.heap.size + 1 < w6.heap.size := by omega)); (try (have : w.heap.size + 1 + 1 < w6.heap.size := by omega)); (try (have : w.heap.size + 1 + 1 + 1 < w6.heap.size := by omega))
    have HX6 := Lib.hid (hO4.below (w' := w6) (by repeat' (first | (with_reducible exact Below.refl _ _) | (with_reducible assumption) | (with_reducible refine Below.alloc ?_ ?_ _) | (with_reducible refine Below.drew ?_) | (with_reducible refine Below.setCell ?_ ?_ _) | (with_reducible refine Below.stepB (by assumption) ?_ ?_) | go_size)))
    clear hO2 hO4 OW OG
    have hB0 : Blk w6 w.heap.size 24 #[.int .i64 r, .int .i64 cl, .slice A n c] := (blk_new w _ _ rfl).below (B := w.heap.size + 1) (by repeat' (first | (with_reducible exact Below.refl _ _) | (with_reducible assumption) | (with_reducible refine Below.alloc ?_ ?_ _) | (with_reducible refine Below.drew ?_) | (with_reducible refine Below.setCell ?_ ?_ _) | (with_reducible refine Below.stepB (by assumption) ?_ ?_) | go_size)) (by omega)
    have hX0 : Blk w6 w4.heap.size 27 #[.int .i64 r, .int .i64 cl, .slice (some ⟨b4, 0, none⟩) n n] := (blk_new w4 _ _ rfl).below (B := w4.heap.size + 1) (by repeat' (first | (with_reducible exact Below.refl _ _) | (with_reducible assumption) | (with_reducible refine Below.alloc ?_ ?_ _) | (with_reducible refine Below.drew ?_) | (with_reducible refine Below.setCell ?_ ?_ _) | (with_reducible refine Below.stepB (by assumption) ?_ ?_) | go_size)) (by omega)
    have d0 := hB0.cell 0
    have d1 := hB0.cell 1
    have d2 := hB0.cell 2
    have e0 := hX0.cell 0
    have e1 := hX0.cell 1
    have e2 := hX0.cell 2
    simp only [List.getElem?_toArray] at d0 d1 d2 e0 e1 e2
    have HB0 := Lib.hid hB0
    have HX0 := Lib.hid hX0
    clear hB0 hX0
    have hlt4 : w4.heap.size < w6.heap.size := by omega
    have hlt0 : w.heap.size < w6.heap.size := by omega
    clear hcw1 hcw2 hcw3 hcw4 hcw5 hcw6
    go_wp2
    go_region_held3 (fun w' => (w'.cell? ⟨w.heap.size, 0, none⟩ = some (.int .i64 r) ∧ w'.cell? ⟨w.heap.size, 1, none⟩ = some (.int .i64 cl) ∧ w'.cell? ⟨w.heap.size, 2, none⟩ = some (.slice A n c)) ∧ w'.cell? ⟨w4.heap.size, 0, none⟩ = some (.int .i64 r) ∧ w'.cell? ⟨w4.heap.size, 1, none⟩ = some (.int .i64 cl) ∧ w'.cell? ⟨w4.heap.size, 2, none⟩ = some (.slice (some ⟨b4, 0, none⟩) n n)) (first | go_keep | ((try dsimp only); (repeat' apply And.intro) <;> go_keep)) (first
          | (go_at_call 10; refine (toField_ex r cl A n c L _ (HS.out.below (by repeat' (first | (with_reducible exact Below.refl _ _) | (with_reducible assumption) | (with_reducible refine Below.alloc ?_ ?_ _) | (with_reducible refine Below.drew ?_) | (with_reducible refine Below.setCell ?_ ?_ _) | (with_reducible refine Below.stepB (by assumption) ?_ ?_) | go_size))) hn).mono ?_; rintro e w7 ⟨b7, rfl, hO7, hbw7⟩; obtain ⟨hzw7, hcw7, hfw7⟩ := bfacts hbw7; (try simp at hzw7 hcw7 hfw7); (try (have : w.heap.size < w7.heap.size := by omega)); (try (have : w.heap.size + 1 < w7.heap.size := by omega)); (try (have : w.heap.size + 1 + 1 < w7.heap.size := by omega)); (try (have : w.heap.size + 1 + 1 + 1 < w7.heap.size := by omega)); have hlt7 : w4.heap.size < w7.heap.size := by omega)
          | (go_at_call 12; refine (eqField_same r cl _ _ n n n L _ (HX6.out.below (by repeat' (first | (with_reducible exact Below.refl _ _) | (with_reducible assumption) | (with_reducible refine Below.alloc ?_ ?_ _) | (with_reducible refine Below.drew ?_) | (with_reducible refine Below.setCell ?_ ?_ _) | (with_reducible refine Below.stepB (by assumption) ?_ ?_) | go_size))).sl hO7.sl hn).mono ?_; rintro e w8 ⟨rfl, hbw8⟩; obtain ⟨hzw8, hcw8, hfw8⟩ := bfacts hbw8; (try simp at hzw8 hcw8 hfw8); (try (have : w.heap.size < w8.heap.size := by omega)); (try (have : w.heap.size + 1 < w8.heap.size := by omega)); (try (have : w.heap.size + 1 + 1 < w8.heap.size := by omega)); (try (have : w.heap.size + 1 + 1 + 1 < w8.heap.size := by omega))))
    clear hO7
    have HX8 := Lib.hid (HX6.out.below (w' := w8) (by repeat' (first | (with_reducible exact Below.refl _ _) | (with_reducible assumption) | (with_reducible refine Below.alloc ?_ ?_ _) | (with_reducible refine Below.drew ?_) | (with_reducible refine Below.setCell ?_ ?_ _) | (with_reducible refine Below.stepB (by assumption) ?_ ?_) | go_size)))
    have OW8 := HOW.out.below (w' := w8) (by repeat' (first | (with_reducible exact Below.refl _ _) | (with_reducible assumption) | (with_reducible refine Below.alloc ?_ ?_ _) | (with_reducible refine Below.drew ?_) | (with_reducible refine Below.setCell ?_ ?_ _) | (with_reducible refine Below.stepB (by assumption) ?_ ?_) | go_size))
    have OG8 := HOG.out.below (w' := w8) (by repeat' (first | (with_reducible exact Below.refl _ _) | (with_reducible assumption) | (with_reducible refine Below.alloc ?_ ?_ _) | (with_reducible refine Below.drew ?_) | (with_reducible refine Below.setCell ?_ ?_ _) | (with_reducible refine Below.stepB (by assumption) ?_ ?_) | go_size))
    have hB8 := HB0.out.below (B := w6.heap.size) (w' := w8) (by repeat' (first | (with_reducible exact Below.refl _ _) | (with_reducible assumption) | (with_reducible refine Below.alloc ?_ ?_ _) | (with_reducible refine Below.drew ?_) | (with_reducible refine Below.setCell ?_ ?_ _) | (with_reducible refine Below.stepB (by assumption) ?_ ?_) | go_size)) hlt0
    have hX8 := HX0.out.below (B := w6.heap.size) (w' := w8) (by repeat' (first | (with_reducible exact Below.refl _ _) | (with_reducible assumption) | (with_reducible refine Below.alloc ?_ ?_ _) | (with_reducible refine Below.drew ?_) | (with_reducible refine Below.setCell ?_ ?_ _) | (with_reducible refine Below.stepB (by assumption) ?_ ?_) | go_size)) hlt4
    clear d0 d1 d2 e0 e1 e2 hcw7 hcw8
    have e0 := hX8.cell 0
    have e1 := hX8.cell 1
    have e2 := hX8.cell 2
    simp only [List.getElem?_toArray] at e0 e1 e2
    go_wp2_with fail
    refine (markField_any r cl _ n n _ _ _ HX8.out hn 1 (by decide) (by decide)).mono ?_
    rintro e w9 ⟨rfl, hO9, hkw9⟩
    have hbw9 := hkw9.below hXr (Nat.le_refl _) (by omega)
    have hzw9 := hbw9.size
    have OW9 := OW8.kept hkw9 hWr hXr (.inl (by omega))
    have OG9 := OG8.kept hkw9 hGr hXr (.inr (by omega))
    have hB9 := hB8.kept hkw9 hXr (.inl (by omega))
    clear OW8 OG8 hO9 hB8 hX8 e0 e1 e2
    go_wp2_with fail
    refine (eqIntA2S_same _ _ _ _ _ _ _ OG9.sl OW9.sl hR.out).mono ?_
    rintro e w10 ⟨rfl, hbw10⟩
    obtain ⟨hzw10, hcw10, hfw10⟩ := bfacts hbw10; (try simp at hzw10 hcw10 hfw10); (try (have : w.heap.size < w10.heap.size := by omega)); (try (have : w.heap.size + 1 < w10.heap.size := by omega)); (try (have : w.heap.size + 1 + 1 < w10.heap.size := by omega)); (try (have : w.heap.size + 1 + 1 + 1 < w10.heap.size := by omega))
    have OW10 := OW9.below hbw10
    have hB10 := hB9.below hbw10 hB9.lt
    go_wp2_with fail
    refine (markIntA2S_any _ _ _ _ _ _ (OG9.below hbw10) hR.out 1 (by decide) (by decide)).mono ?_
    rintro e w11 ⟨rfl, OG11, hkw11⟩
    have hbw11 := hkw11.below hGr (Nat.le_refl _) (by omega)
    have hzw11 := hbw11.size
    have OW11 := OW10.kept hkw11 hWr hGr (.inl (by omega))
    have hB11 := hB10.kept hkw11 hGr (.inl (by omega))
    clear OW9 OG9 OW10 hB9 hB10
    go_wp2_with fail
    refine (heldIntA2S_any _ _ _ _ 1 OG11.sl hR.out (by decide) (by decide)).mono ?_
    rintro e w12 ⟨rfl, hbw12⟩
    obtain ⟨hzw12, hcw12, hfw12⟩ := bfacts hbw12; (try simp at hzw12 hcw12 hfw12); (try (have : w.heap.size < w12.heap.size := by omega)); (try (have : w.heap.size + 1 < w12.heap.size := by omega)); (try (have : w.heap.size + 1 + 1 < w12.heap.size := by omega)); (try (have : w.heap.size + 1 + 1 + 1 < w12.heap.size := by omega))
    have hB12 := hB11.below hbw12 hB11.lt
    clear hcw12 hcw10
    have d0 := hB12.cell 0
    have d1 := hB12.cell 1
    have d2 := hB12.cell 2
    simp only [List.getElem?_toArray] at d0 d1 d2
    clear hB11 hB12
    go_wp2_with fail
    refine (toField_ex r cl A n c L _ (HS.out.below (by repeat' (first | (with_reducible exact Below.refl _ _) | (with_reducible assumption) | (with_reducible refine Below.alloc ?_ ?_ _) | (with_reducible refine Below.drew ?_) | (with_reducible refine Below.setCell ?_ ?_ _) | (with_reducible refine Below.stepB (by assumption) ?_ ?_) | go_size))) hn).mono ?_
    rintro e w13 ⟨b13, rfl, hO13, hbw13⟩
    obtain ⟨hzw13, hcw13, hfw13⟩ := bfacts hbw13; (try simp at hzw13 hcw13 hfw13); (try (have : w.heap.size < w13.heap.size := by omega)); (try (have : w.heap.size + 1 < w13.heap.size := by omega)); (try (have : w.heap.size + 1 + 1 < w13.heap.size := by omega)); (try (have : w.heap.size + 1 + 1 + 1 < w13.heap.size := by omega))
    clear d0 d1 d2
    go_wp2_with fail
    refine (ShoalCells_any r cl _ n n L lev _ hO13.sl hn).mono ?_
    rintro e w14 ⟨Ah, ch, rfl, OH, hbw14⟩
    obtain ⟨hzw14, hcw14, hfw14⟩ := bfacts hbw14; (try simp at hzw14 hcw14 hfw14); (try (have : w.heap.size < w14.heap.size := by omega)); (try (have : w.heap.size + 1 < w14.heap.size := by omega)); (try (have : w.heap.size + 1 + 1 < w14.heap.size := by omega)); (try (have : w.heap.size + 1 + 1 + 1 < w14.heap.size := by omega))
    go_wp2_with fail
    refine (eqIntA2S_same _ _ _ _ _ _ _ OH.sl (OW11.below (by repeat' (first | (with_reducible exact Below.refl _ _) | (with_reducible assumption) | (with_reducible refine Below.alloc ?_ ?_ _) | (with_reducible refine Below.drew ?_) | (with_reducible refine Below.setCell ?_ ?_ _) | (with_reducible refine Below.stepB (by assumption) ?_ ?_) | go_size))).sl hR.out).mono ?_
    rintro e w15 ⟨rfl, hbw15⟩
    obtain ⟨hzw15, hcw15, hfw15⟩ := bfacts hbw15; (try simp at hzw15 hcw15 hfw15); (try (have : w.heap.size < w15.heap.size := by omega)); (try (have : w.heap.size + 1 < w15.heap.size := by omega)); (try (have : w.heap.size + 1 + 1 < w15.heap.size := by omega)); (try (have : w.heap.size + 1 + 1 + 1 < w15.heap.size := by omega))
    go_wp2_with fail
    refine (heldIntA2S_any _ _ _ _ 1 (OG11.below (by repeat' (first | (with_reducible exact Below.refl _ _) | (with_reducible assumption) | (with_reducible refine Below.alloc ?_ ?_ _) | (with_reducible refine Below.drew ?_) | (with_reducible refine Below.setCell ?_ ?_ _) | (with_reducible refine Below.stepB (by assumption) ?_ ?_) | go_size))).sl hR.out (by decide) (by decide)).mono ?_
    rintro e w16 ⟨rfl, hbw16⟩
    obtain ⟨hzw16, hcw16, hfw16⟩ := bfacts hbw16; (try simp at hzw16 hcw16 hfw16); (try (have : w.heap.size < w16.heap.size := by omega)); (try (have : w.heap.size + 1 < w16.heap.size := by omega)); (try (have : w.heap.size + 1 + 1 < w16.heap.size := by omega)); (try (have : w.heap.size + 1 + 1 + 1 < w16.heap.size := by omega))
    go_wp2
    go_ret
    exact ⟨rfl, by repeat' (first | (with_reducible exact Below.refl _ _) | (with_reducible assumption) | (with_reducible refine Below.alloc ?_ ?_ _) | (with_reducible refine Below.drew ?_) | (with_reducible refine Below.setCell ?_ ?_ _) | (with_reducible refine Below.stepB (by assumption) ?_ ?_) | go_size)⟩
  · go_enter Try.func7, Try.ntmps7
    go_wp2_with fail
    refine (szField_no r cl A n c _ _ (by omega) hm (by decide) (by decide)).mono ?_
    rintro e w1 ⟨rfl, hbw1⟩
    obtain ⟨hzw1, hcw1, hfw1⟩ := bfacts hbw1; (try simp at hzw1 hcw1 hfw1); (try (have : w.heap.size < w1.heap.size := by omega)); (try (have : w.heap.size + 1 < w1.heap.size := by omega)); (try (have : w.heap.size + 1 + 1 < w1.heap.size := by omega)); (try (have : w.heap.size + 1 + 1 + 1 < w1.heap.size := by omega))
    go_wp2
    go_ret
    exact ⟨rfl, by repeat' (first | (with_reducible exact Below.refl _ _) | (with_reducible assumption) | (with_reducible refine Below.alloc ?_ ?_ _) | (with_reducible refine Below.drew ?_) | (with_reducible refine Below.setCell ?_ ?_ _) | (with_reducible refine Below.stepB (by assumption) ?_ ?_) | go_size)⟩
end Go.Proofs.Ytepibbjcmjabiaa
