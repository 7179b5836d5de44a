/- Contracts: the draw of a radius and of chosen Ids; the drawn arguments of the laws on selections. -/
import Derived.Test.YtakkgagdbmlafaaCurT
import Derived.Test.YtakkgagdbmlafaaShoC
namespace Go.Proofs.Ytakkgagdbmlafaa
open Go.RowKit
theorem radius_any (b : Nat) (A : Option Addr) (n c K : Nat) (w : World) (h : CurS w b A n c K) (hK : K ≤ 999900) (hn : n ≤ 9223372036854775807) :
    Calls Try.prog 58 #[.pointer (some ⟨b, 0, none⟩)] w fun e w' => ∃ x : Int, e = .returned (.int .i64 x) ∧ Drew w b A n c (K + 2) w' := by
  have HC := Lib.hid h
  have hbl := h.lt
  clear h
  go_enter Try.func58, Try.ntmps58
  go_wp2_with fail
  refine (among_any b A n c K w.heap.size 10 10 [1, 10, 20, 40, 70, 150, 1000, 0, 1001, 30] _ (HC.out.below (by repeat' (first | (with_reducible exact Below.refl _ _) | (with_reducible assumption) | (with_reducible refine Below.alloc ?_ ?_ _) | (with_reducible refine Below.drew ?_) | (with_reducible refine Below.setCell ?_ ?_ _) | (with_reducible refine Below.stepB (by assumption) ?_ ?_) | go_size))) (by omega) hn (blk_newC _ rfl) (by omega) (by decide) (by decide) (by decide)).mono ?_
  rintro e w1 ⟨x, rfl, hD⟩
  have HK1 := Lib.hid (((Kept.refl w (some ⟨b, 0, none⟩) 1).laterB (show Below w.heap.size w _ from by repeat' (first | (with_reducible exact Below.refl _ _) | (with_reducible assumption) | (with_reducible refine Below.alloc ?_ ?_ _) | (with_reducible refine Below.drew ?_) | (with_reducible refine Below.setCell ?_ ?_ _) | (with_reducible refine Below.stepB (by assumption) ?_ ?_) | go_size))).trans1 hD.2)
  have HC1 := Lib.hid hD.1
  clear hD
  go_wp2
  go_ret
  exact ⟨x, rfl, HC1.out, HK1.out⟩
theorem owns_snoc' {w : World} {base : Nat} {e : TypeId} {A : Option Addr} {c : Nat} {L : List Int} {z : Int} (h : w.ownsRow base e 1 (.slice A (L.length + 1) c) (L.length + 1) (L.map (Value.int .i64) ++ [.int .i64 z])) : w.ownsRow base e 1 (.slice A (L ++ [z]).length c) (L ++ [z]).length ((L ++ [z]).map (Value.int .i64)) := by simpa using h
theorem slSD_out {w w' : World} {b n B : Nat} {f : Nat → SD} (h : SlSD w (some ⟨b, 0, none⟩) n f) (hb : Below B w w') (hB : b < B) : SlSD w' (some ⟨b, 0, none⟩) n f := fun hn => by
  obtain ⟨p, off, hA, hl, hc⟩ := h hn
  obtain ⟨rfl, rfl⟩ : b = p ∧ 0 = off := by simpa using hA
  have := hb.size
  exact ⟨b, 0, rfl, by omega, fun i j hi hj => (hb.cell (p := ⟨b, _, none⟩) hB).trans (hc i j hi hj)⟩
set_option maxRecDepth 100000 in
set_option maxHeartbeats 2000000 in
theorem chosen_any (b : Nat) (A : Option Addr) (n c K : Nat) (b2 m2 c2 : Nat) (f : Nat → SD) (r : Int) (w : World) (h : CurS w b A n c K) (hK : K ≤ 900000) (hn : n ≤ 9223372036854775807) (hS : SlSD w (some ⟨b2, 0, none⟩) m2 f) (hne : 0 < m2 → b2 ≠ b) (hm2 : m2 ≤ 13) :
    Calls Try.prog 101 #[.pointer (some ⟨b, 0, none⟩), .slice (some ⟨b2, 0, none⟩) m2 c2, .int .i64 r] w fun e w' => ∃ (m a' c' : Nat) (L : Nat → Int), e = .returned (.slice (some ⟨a', 0, none⟩) m c') ∧ m ≤ 1048576 ∧ m ≤ c' ∧ OwnI w' w.heap.size (some ⟨a', 0, none⟩) m L ∧ Drew w b A n c (K + 60) w' := by
  have HON := Lib.hid (fun K' (m : Int) W (hK : K' ≤ 999990) (hC : CurS W b A n c K') (hm : m ≤ 100000) => one_any b A n c K' m W hC hK hn hm)
  have HAM := Lib.hid (fun K' g m c2 ls W (hK : K' ≤ 999990) (hC : CurS W b A n c K') hB hg hm0 hm hl => among_any b A n c K' g m c2 ls W hC hK hn hB hg hm0 hm hl)
  have HSH := Lib.hid (specShoalsC_any (some ⟨b2, 0, none⟩) m2 c2 f r w hS (by omega))
  have hsl := shoO_len f m2 r (by omega)
  have HC := Lib.hid h
  have hbl := h.lt
  have HS := Lib.hid hS
  have hb2 : 0 < m2 → b2 < w.heap.size := fun h0 => by
    obtain ⟨p, off, hA, hl, _⟩ := hS h0
    obtain ⟨rfl, rfl⟩ : b2 = p ∧ 0 = off := by simpa using hA
    exact hl
  obtain ⟨i0, hi0, hz0, hz1, hz2⟩ := info_parts int1_info
  clear h hS
  generalize shoOk f m2 r = ok at HSH
  generalize shoO f m2 r = SL at HSH hsl
  go_enter Try.func101, Try.ntmps101
  go_wp2_with fail
  refine HSH.out.mono ?_
  rintro e w1 ⟨a1, c1, rfl, hcap, hO, hb1⟩
  have HO1 := Lib.hid hO
  have HC1 := Lib.hid (HC.out.below hb1)
  have HK1 := Lib.hid ((Kept.refl w (some ⟨b, 0, none⟩) 1).laterB hb1)
  have HS1 := Lib.hid (HS.out.below hb1)
  have hz1' := hb1.size
  clear hO hb1
  cases ok
  · have HCX := Lib.hid (HC1.out.more (show K ≤ K + 2 by omega))
    have HKX := HK1
    have HSX := HS1
    have hzX := hz1'
    go_wp2
    have hO0 := Lib.hid (ownsRow_empty w1 3 1)
    go_loopw [9, 10] (fun v9 v10 wr => ∃ (k : Nat) (Y : List Int) (b3 c3 : Nat), k ≤ m2 ∧ v10 = .int .i64 k ∧ v9 = .slice (some ⟨b3, 0, none⟩) Y.length c3 ∧ Y.length ≤ k ∧ Hid (wr.ownsRow w.heap.size 3 1 (.slice (some ⟨b3, 0, none⟩) Y.length c3) Y.length (Y.map (Value.int .i64))) ∧ Hid (CurS wr b A n c (K + 4 + 2 * k)) ∧ Hid (Kept w wr (some ⟨b, 0, none⟩) 1) ∧ Hid (SlSD wr (some ⟨b2, 0, none⟩) m2 f) ∧ w.heap.size ≤ wr.heap.size) (fun _ v10 _ => m2 - (intOf v10).toNat)
    case atStart => exact ⟨0, [], _, _, Nat.zero_le _, rfl, rfl, Nat.zero_le _, own_base hO0.out (by omega), (HCX.out.below (by repeat' (first | (with_reducible exact Below.refl _ _) | (with_reducible assumption) | (with_reducible refine Below.alloc ?_ ?_ _) | (with_reducible refine Below.drew ?_) | (with_reducible refine Below.setCell ?_ ?_ _) | (with_reducible refine Below.stepB (by assumption) ?_ ?_) | go_size))).more (by omega), HKX.out.onB (by repeat' (first | (with_reducible exact Below.refl _ _) | (with_reducible assumption) | (with_reducible refine Below.alloc ?_ ?_ _) | (with_reducible refine Below.drew ?_) | (with_reducible refine Below.setCell ?_ ?_ _) | (with_reducible refine Below.stepB (by assumption) ?_ ?_) | go_size)), HSX.out.below (by repeat' (first | (with_reducible exact Below.refl _ _) | (with_reducible assumption) | (with_reducible refine Below.alloc ?_ ?_ _) | (with_reducible refine Below.drew ?_) | (with_reducible refine Below.setCell ?_ ?_ _) | (with_reducible refine Below.stepB (by assumption) ?_ ?_) | go_size)), by simp; omega⟩
    case round =>
      clear hO0
      obtain ⟨k, Y, b3, c3, hk, rfl, rfl, hYk, hO, hC, hKp, hSr, hzr⟩ := hrel
      by_cases hlt : k < m2
      · go_wp2_with fail
        refine (HON.out (K + 4 + 2 * k) 3 _ (by omega) hC.out (by decide)).mono ?_
        rintro e w3 ⟨t, rfl, hD⟩
        have HO3 := Lib.hid (ownsRow_keptC hO.out hD.2 hbl)
        have HK3 := Lib.hid (hKp.out.trans1 hD.2)
        have HC3 := Lib.hid hD.1
        have HS3 := Lib.hid (Sl.keptC hSr.out hD.2 (fun h0 a ha => by obtain rfl := Option.some.inj ha; exact hne h0) : SlSD w3 (some ⟨b2, 0, none⟩) m2 f)
        have hz3 := hD.2.size
        clear hD
        cases t
        · obtain ⟨b', off', e5, hbl2, hbl3, x0, -⟩ := SlSD.at HS3.out (Below.refl _ _) hlt
          obtain ⟨rfl, rfl⟩ : b2 = b' ∧ off' = 0 := by simpa [eq_comm] using e5
          simp only [Nat.zero_add] at x0
          clear e5
          go_wp2_with (at_builtin; refine wpList_append_int1 _ rfl _ _ 23 rfl w.heap.size 3 i0 Try.underlying23 hi0 hz0 hz1 hz2 _ _ _ rfl ((HO3.out.alloc _)) _ _ ((f k).id) rfl ?_ ?_ ?_ ?_; go_must (focus (simp; done)); go_must (focus omega); go_must (focus (first | omega | (simp; omega) | (simp; done))); intro v9 w4 hOw4 hbw4; have hzw4 := hbw4.size; (try simp at hzw4))
          obtain ⟨b4, c4, rfl⟩ := ownsRow_pos hOw4 (Nat.succ_pos _)
          go_roundw
          case rel => exact ⟨k + 1, Y ++ [(f k).id], b4, c4, by omega, by go_num, by simp, by simp; omega, owns_snoc' hOw4, (HC3.out.belowB (B := w.heap.size) (by repeat' (first | (with_reducible exact Below.refl _ _) | (with_reducible assumption) | (with_reducible refine Below.alloc ?_ ?_ _) | (with_reducible refine Below.drew ?_) | (with_reducible refine Below.setCell ?_ ?_ _) | (with_reducible refine Below.stepB (by assumption) ?_ ?_) | go_size)) hbl).more (by omega), HK3.out.onB (by repeat' (first | (with_reducible exact Below.refl _ _) | (with_reducible assumption) | (with_reducible refine Below.alloc ?_ ?_ _) | (with_reducible refine Below.drew ?_) | (with_reducible refine Below.setCell ?_ ?_ _) | (with_reducible refine Below.stepB (by assumption) ?_ ?_) | go_size)), slSD_out HS3.out (show Below w.heap.size w3 w4 from by repeat' (first | (with_reducible exact Below.refl _ _) | (with_reducible assumption) | (with_reducible refine Below.alloc ?_ ?_ _) | (with_reducible refine Below.drew ?_) | (with_reducible refine Below.setCell ?_ ?_ _) | (with_reducible refine Below.stepB (by assumption) ?_ ?_) | go_size)) (hb2 (by omega)), by omega⟩
          case measure => simp [intOf]; omega
        · go_wp2
          go_roundw
          case rel => exact ⟨k + 1, Y, b3, c3, by omega, by go_num, rfl, by omega, HO3.out, HC3.out.more (by omega), HK3.out, HS3.out, by omega⟩
          case measure => simp [intOf]; omega
      · obtain rfl : k = m2 := by omega
        go_wp2_with fail
        refine (HON.out (K + 4 + 2 * k) 16 _ (by omega) hC.out (by decide)).mono ?_
        rintro e w3 ⟨t, rfl, hD⟩
        have HO3 := Lib.hid (ownsRow_keptC hO.out hD.2 hbl)
        have HK3 := Lib.hid (hKp.out.trans1 hD.2)
        have HC3 := Lib.hid hD.1
        have hz3 := hD.2.size
        clear hD hO hC hKp
        cases t
        · go_wp2
          go_ret
          exact ⟨Y.length, b3, c3, _, rfl, by omega, ownsRow_cap HO3.out, ownI_of rfl HO3.out, HC3.out.more (by omega), HK3.out⟩
        · go_wp2_with fail
          refine (HAM.out (K + 4 + 2 * k + 2) w3.heap.size 3 3 [0, 7, 500] _ (by omega) (HC3.out.below (by repeat' (first | (with_reducible exact Below.refl _ _) | (with_reducible assumption) | (with_reducible refine Below.alloc ?_ ?_ _) | (with_reducible refine Below.drew ?_) | (with_reducible refine Below.setCell ?_ ?_ _) | (with_reducible refine Below.stepB (by assumption) ?_ ?_) | go_size))) (blk_newC _ (by simp)) (by omega) (by decide) (by decide) (by decide)).mono ?_
          rintro e w4 ⟨z, rfl, hD⟩
          have HO4 := Lib.hid (ownsRow_keptC (HO3.out.alloc _) hD.2 hbl)
          have HK4 := Lib.hid ((HK3.out.onB (show Below w.heap.size w3 _ from by repeat' (first | (with_reducible exact Below.refl _ _) | (with_reducible assumption) | (with_reducible refine Below.alloc ?_ ?_ _) | (with_reducible refine Below.drew ?_) | (with_reducible refine Below.setCell ?_ ?_ _) | (with_reducible refine Below.stepB (by assumption) ?_ ?_) | go_size))).trans1 hD.2)
          have HC4 := Lib.hid hD.1
          have hz4 := hD.2.size
          (try simp at hz4)
          clear hD
          go_wp2_with (at_builtin; refine wpList_append_int1 _ rfl _ _ 23 rfl w.heap.size 3 i0 Try.underlying23 hi0 hz0 hz1 hz2 _ _ _ rfl ((HO4.out.alloc _)) _ _ (z) rfl ?_ ?_ ?_ ?_; go_must (focus (simp; done)); go_must (focus omega); go_must (focus (first | omega | (simp; omega) | (simp; done))); intro v9 w5 hOw5 hbw5; have hzw5 := hbw5.size; (try simp at hzw5))
          obtain ⟨b5, c5, rfl⟩ := ownsRow_pos hOw5 (Nat.succ_pos _)
          go_ret
          exact ⟨Y.length + 1, b5, c5, _, rfl, by omega, ownsRow_cap hOw5, ownI_of (L := Y ++ [z]) (by simp) (by simpa using hOw5), (HC4.out.belowB (B := w.heap.size) (by repeat' (first | (with_reducible exact Below.refl _ _) | (with_reducible assumption) | (with_reducible refine Below.alloc ?_ ?_ _) | (with_reducible refine Below.drew ?_) | (with_reducible refine Below.setCell ?_ ?_ _) | (with_reducible refine Below.stepB (by assumption) ?_ ?_) | go_size)) hbl).more (by omega), HK4.out.onB (by repeat' (first | (with_reducible exact Below.refl _ _) | (with_reducible assumption) | (with_reducible refine Below.alloc ?_ ?_ _) | (with_reducible refine Below.drew ?_) | (with_reducible refine Below.setCell ?_ ?_ _) | (with_reducible refine Below.stepB (by assumption) ?_ ?_) | go_size))⟩
  · go_wp2_with fail
    refine (HON.out K 2 _ (by omega) HC1.out (by decide)).mono ?_
    rintro e w2 ⟨t, rfl, hD⟩
    have HOI := Lib.hid (Own.keptC HO1.out hD.2 hbl)
    have HKX := Lib.hid (HK1.out.trans1 hD.2)
    have HCX := Lib.hid hD.1
    have HSX := Lib.hid (Sl.keptC HS1.out hD.2 (fun h0 a ha => by obtain rfl := Option.some.inj ha; exact hne h0) : SlSD w2 (some ⟨b2, 0, none⟩) m2 f)
    have hzq := hD.2.size
    have hzX : w.heap.size ≤ w2.heap.size := by omega
    clear hD
    cases t
    · skip
      go_wp2
      have hO0 := Lib.hid (ownsRow_empty w2 3 1)
      go_loopw [9, 10] (fun v9 v10 wr => ∃ (k : Nat) (Y : List Int) (b3 c3 : Nat), k ≤ m2 ∧ v10 = .int .i64 k ∧ v9 = .slice (some ⟨b3, 0, none⟩) Y.length c3 ∧ Y.length ≤ k ∧ Hid (wr.ownsRow w.heap.size 3 1 (.slice (some ⟨b3, 0, none⟩) Y.length c3) Y.length (Y.map (Value.int .i64))) ∧ Hid (CurS wr b A n c (K + 4 + 2 * k)) ∧ Hid (Kept w wr (some ⟨b, 0, none⟩) 1) ∧ Hid (SlSD wr (some ⟨b2, 0, none⟩) m2 f) ∧ w.heap.size ≤ wr.heap.size) (fun _ v10 _ => m2 - (intOf v10).toNat)
      case atStart => exact ⟨0, [], _, _, Nat.zero_le _, rfl, rfl, Nat.zero_le _, own_base hO0.out (by omega), (HCX.out.below (by repeat' (first | (with_reducible exact Below.refl _ _) | (with_reducible assumption) | (with_reducible refine Below.alloc ?_ ?_ _) | (with_reducible refine Below.drew ?_) | (with_reducible refine Below.setCell ?_ ?_ _) | (with_reducible refine Below.stepB (by assumption) ?_ ?_) | go_size))).more (by omega), HKX.out.onB (by repeat' (first | (with_reducible exact Below.refl _ _) | (with_reducible assumption) | (with_reducible refine Below.alloc ?_ ?_ _) | (with_reducible refine Below.drew ?_) | (with_reducible refine Below.setCell ?_ ?_ _) | (with_reducible refine Below.stepB (by assumption) ?_ ?_) | go_size)), HSX.out.below (by repeat' (first | (with_reducible exact Below.refl _ _) | (with_reducible assumption) | (with_reducible refine Below.alloc ?_ ?_ _) | (with_reducible refine Below.drew ?_) | (with_reducible refine Below.setCell ?_ ?_ _) | (with_reducible refine Below.stepB (by assumption) ?_ ?_) | go_size)), by simp; omega⟩
      case round =>
        clear hO0
        obtain ⟨k, Y, b3, c3, hk, rfl, rfl, hYk, hO, hC, hKp, hSr, hzr⟩ := hrel
        by_cases hlt : k < m2
        · go_wp2_with fail
          refine (HON.out (K + 4 + 2 * k) 3 _ (by omega) hC.out (by decide)).mono ?_
          rintro e w3 ⟨t, rfl, hD⟩
          have HO3 := Lib.hid (ownsRow_keptC hO.out hD.2 hbl)
          have HK3 := Lib.hid (hKp.out.trans1 hD.2)
          have HC3 := Lib.hid hD.1
          have HS3 := Lib.hid (Sl.keptC hSr.out hD.2 (fun h0 a ha => by obtain rfl := Option.some.inj ha; exact hne h0) : SlSD w3 (some ⟨b2, 0, none⟩) m2 f)
          have hz3 := hD.2.size
          clear hD
          cases t
          · obtain ⟨b', off', e5, hbl2, hbl3, x0, -⟩ := SlSD.at HS3.out (Below.refl _ _) hlt
            obtain ⟨rfl, rfl⟩ : b2 = b' ∧ off' = 0 := by simpa [eq_comm] using e5
            simp only [Nat.zero_add] at x0
            clear e5
            go_wp2_with (at_builtin; refine wpList_append_int1 _ rfl _ _ 23 rfl w.heap.size 3 i0 Try.underlying23 hi0 hz0 hz1 hz2 _ _ _ rfl ((HO3.out.alloc _)) _ _ ((f k).id) rfl ?_ ?_ ?_ ?_; go_must (focus (simp; done)); go_must (focus omega); go_must (focus (first | omega | (simp; omega) | (simp; done))); intro v9 w4 hOw4 hbw4; have hzw4 := hbw4.size; (try simp at hzw4))
            obtain ⟨b4, c4, rfl⟩ := ownsRow_pos hOw4 (Nat.succ_pos _)
            go_roundw
            case rel => exact ⟨k + 1, Y ++ [(f k).id], b4, c4, by omega, by go_num, by simp, by simp; omega, owns_snoc' hOw4, (HC3.out.belowB (B := w.heap.size) (by repeat' (first | (with_reducible exact Below.refl _ _) | (with_reducible assumption) | (with_reducible refine Below.alloc ?_ ?_ _) | (with_reducible refine Below.drew ?_) | (with_reducible refine Below.setCell ?_ ?_ _) | (with_reducible refine Below.stepB (by assumption) ?_ ?_) | go_size)) hbl).more (by omega), HK3.out.onB (by repeat' (first | (with_reducible exact Below.refl _ _) | (with_reducible assumption) | (with_reducible refine Below.alloc ?_ ?_ _) | (with_reducible refine Below.drew ?_) | (with_reducible refine Below.setCell ?_ ?_ _) | (with_reducible refine Below.stepB (by assumption) ?_ ?_) | go_size)), slSD_out HS3.out (show Below w.heap.size w3 w4 from by repeat' (first | (with_reducible exact Below.refl _ _) | (with_reducible assumption) | (with_reducible refine Below.alloc ?_ ?_ _) | (with_reducible refine Below.drew ?_) | (with_reducible refine Below.setCell ?_ ?_ _) | (with_reducible refine Below.stepB (by assumption) ?_ ?_) | go_size)) (hb2 (by omega)), by omega⟩
            case measure => simp [intOf]; omega
          · go_wp2
            go_roundw
            case rel => exact ⟨k + 1, Y, b3, c3, by omega, by go_num, rfl, by omega, HO3.out, HC3.out.more (by omega), HK3.out, HS3.out, by omega⟩
            case measure => simp [intOf]; omega
        · obtain rfl : k = m2 := by omega
          go_wp2_with fail
          refine (HON.out (K + 4 + 2 * k) 16 _ (by omega) hC.out (by decide)).mono ?_
          rintro e w3 ⟨t, rfl, hD⟩
          have HO3 := Lib.hid (ownsRow_keptC hO.out hD.2 hbl)
          have HK3 := Lib.hid (hKp.out.trans1 hD.2)
          have HC3 := Lib.hid hD.1
          have hz3 := hD.2.size
          clear hD hO hC hKp
          cases t
          · go_wp2
            go_ret
            exact ⟨Y.length, b3, c3, _, rfl, by omega, ownsRow_cap HO3.out, ownI_of rfl HO3.out, HC3.out.more (by omega), HK3.out⟩
          · go_wp2_with fail
            refine (HAM.out (K + 4 + 2 * k + 2) w3.heap.size 3 3 [0, 7, 500] _ (by omega) (HC3.out.below (by repeat' (first | (with_reducible exact Below.refl _ _) | (with_reducible assumption) | (with_reducible refine Below.alloc ?_ ?_ _) | (with_reducible refine Below.drew ?_) | (with_reducible refine Below.setCell ?_ ?_ _) | (with_reducible refine Below.stepB (by assumption) ?_ ?_) | go_size))) (blk_newC _ (by simp)) (by omega) (by decide) (by decide) (by decide)).mono ?_
            rintro e w4 ⟨z, rfl, hD⟩
            have HO4 := Lib.hid (ownsRow_keptC (HO3.out.alloc _) hD.2 hbl)
            have HK4 := Lib.hid ((HK3.out.onB (show Below w.heap.size w3 _ from by repeat' (first | (with_reducible exact Below.refl _ _) | (with_reducible assumption) | (with_reducible refine Below.alloc ?_ ?_ _) | (with_reducible refine Below.drew ?_) | (with_reducible refine Below.setCell ?_ ?_ _) | (with_reducible refine Below.stepB (by assumption) ?_ ?_) | go_size))).trans1 hD.2)
            have HC4 := Lib.hid hD.1
            have hz4 := hD.2.size
            (try simp at hz4)
            clear hD
            go_wp2_with (at_builtin; refine wpList_append_int1 _ rfl _ _ 23 rfl w.heap.size 3 i0 Try.underlying23 hi0 hz0 hz1 hz2 _ _ _ rfl ((HO4.out.alloc _)) _ _ (z) rfl ?_ ?_ ?_ ?_; go_must (focus (simp; done)); go_must (focus omega); go_must (focus (first | omega | (simp; omega) | (simp; done))); intro v9 w5 hOw5 hbw5; have hzw5 := hbw5.size; (try simp at hzw5))
            obtain ⟨b5, c5, rfl⟩ := ownsRow_pos hOw5 (Nat.succ_pos _)
            go_ret
            exact ⟨Y.length + 1, b5, c5, _, rfl, by omega, ownsRow_cap hOw5, ownI_of (L := Y ++ [z]) (by simp) (by simpa using hOw5), (HC4.out.belowB (B := w.heap.size) (by repeat' (first | (with_reducible exact Below.refl _ _) | (with_reducible assumption) | (with_reducible refine Below.alloc ?_ ?_ _) | (with_reducible refine Below.drew ?_) | (with_reducible refine Below.setCell ?_ ?_ _) | (with_reducible refine Below.stepB (by assumption) ?_ ?_) | go_size)) hbl).more (by omega), HK4.out.onB (by repeat' (first | (with_reducible exact Below.refl _ _) | (with_reducible assumption) | (with_reducible refine Below.alloc ?_ ?_ _) | (with_reducible refine Below.drew ?_) | (with_reducible refine Below.setCell ?_ ?_ _) | (with_reducible refine Below.stepB (by assumption) ?_ ?_) | go_size))⟩
    · go_wp2
      go_ret
      exact ⟨SL.length, a1, c1, _, rfl, hsl, hcap, HOI.out, HCX.out.more (by omega), HKX.out⟩
end Go.Proofs.Ytakkgagdbmlafaa
