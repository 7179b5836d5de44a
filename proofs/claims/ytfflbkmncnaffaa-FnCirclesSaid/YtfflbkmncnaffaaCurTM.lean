/- Contract: the draw of soundings. -/
import Derived.Test.YtfflbkmncnaffaaCurSM
namespace Go.Proofs.Ytfflbkmncnaffaa
open Go.RowKit
def noSDz : SD := ⟨0, 0, 0, 0, 0⟩
def rowSD (f : Nat → SD) (n : Nat) : List Value := flatG 5 (fun i j => (f i).cell j) n
theorem rowSD_snoc (f : Nat → SD) (n : Nat) (s : SD) : rowSD f n ++ flatG 5 (fun _ j => s.cell j) 1 = rowSD (fun i => if i = n then s else f i) (n + 1) := by
  unfold rowSD
  rw [flatG_snoc _ _ (by decide)]
  congr 1
  funext i j
  by_cases h : i = n <;> simp [h]
theorem sd_one (f : Nat → SD) (i j : Nat) : ((f i).cell j).oneCell' = true := by
  unfold SD.cell
  split <;> rfl
theorem sd_box {w : World} {g : Nat} {s : SD} (h : Blk w g 65 #[.int .i64 s.id, .int .i64 s.x, .int .i64 s.y, .int .i64 s.depth, .int .i64 s.doubt]) : ∀ i j, i < 1 → j < 5 → w.cell? ⟨g, 0 + i * 5 + j, none⟩ = some (s.cell j) := fun i j hi hj => by
  obtain rfl : i = 0 := by omega
  have : j = 0 ∨ j = 1 ∨ j = 2 ∨ j = 3 ∨ j = 4 := by omega
  rcases this with rfl | rfl | rfl | rfl | rfl
  · exact h.cell 0
  · exact h.cell 1
  · exact h.cell 2
  · exact h.cell 3
  · exact h.cell 4
def lenW : Value → Nat
  | .slice _ n _ => n
  | _ => 0
set_option maxRecDepth 100000 in
set_option maxHeartbeats 2000000 in
theorem soundings_any (b : Nat) (A : Option Addr) (n c K : Nat) (w : World) (h : CurS w b A n c K) (hK : K ≤ 990000) (hn : n ≤ 9223372036854775807) :
    Calls Try.prog 97 #[.pointer (some ⟨b, 0, none⟩)] w fun e w' => ∃ (m b' c' : Nat) (f : Nat → SD), e = .returned (.slice (some ⟨b', 0, none⟩) m c') ∧ m ≤ 13 ∧ Own w' w.heap.size 5 (some ⟨b', 0, none⟩) m (fun i j => (f i).cell j) ∧ Drew w b A n c (K + 300) w' := by
  have HST := Lib.hid (fun K' (id : Int) W (hK : K' ≤ 999900) (hC : CurS W b A n c K') => sounding_any b A n c K' id W hC hK hn)
  have HPK := Lib.hid (fun K' (m : Int) W (hK : K' ≤ 999990) (hC : CurS W b A n c K') (hm : m ≤ 100000) => pick_any b A n c K' m W hC hK hn hm)
  have HON := Lib.hid (fun K' (m : Int) W (hK : K' ≤ 999990) (hC : CurS W b A n c K') (hm : m ≤ 100000) => one_any b A n c K' m W hC hK hn hm)
  have HAM := Lib.hid (fun K' g m c2 ls W (hK : K' ≤ 999990) (hC : CurS W b A n c K') hB hg hm0 hm hl => among_any b A n c K' g m c2 ls W hC hK hn hB hg hm0 hm hl)
  have HC := Lib.hid h
  have hbl := h.lt
  clear h
  have HK0 := Lib.hid (Kept.refl w (some ⟨b, 0, none⟩) 1)
  obtain ⟨q0, hq0, hy0, hy1, hy2⟩ := info_parts info_Sounding
  have hO0 := Lib.hid (ownsRow_empty w 65 5)
  go_enter Try.func97, Try.ntmps97
  go_wp2
  go_loopw [3, 4] (fun v3 v4 wr => ∃ (k m b3 c3 : Nat) (f : Nat → SD), v4 = .int .i64 k ∧ 1 ≤ k ∧ k ≤ 9 ∧ v3 = .slice (some ⟨b3, 0, none⟩) m c3 ∧ m + 1 ≤ k ∧ Hid (wr.ownsRow w.heap.size 65 5 (.slice (some ⟨b3, 0, none⟩) m c3) m (rowSD f m)) ∧ Hid (CurS wr b A n c (K + 18 * k)) ∧ Hid (Kept w wr (some ⟨b, 0, none⟩) 1) ∧ w.heap.size ≤ wr.heap.size) (fun _ v4 _ => 9 - (intOf v4).toNat)
  case atStart => exact ⟨1, 0, _, _, fun _ => noSDz, rfl, by omega, by omega, rfl, by omega, hO0.out, (HC.out.below (by repeat' (first | (with_reducible exact Below.refl _ _) | (with_reducible assumption) | (with_reducible refine Below.alloc ?_ ?_ _) | (with_reducible refine Below.drew ?_) | (with_reducible refine Below.setCell ?_ ?_ _) | (with_reducible refine Below.stepB (by assumption) ?_ ?_) | go_size))).more (by omega), HK0.out.onB (by repeat' (first | (with_reducible exact Below.refl _ _) | (with_reducible assumption) | (with_reducible refine Below.alloc ?_ ?_ _) | (with_reducible refine Below.drew ?_) | (with_reducible refine Below.setCell ?_ ?_ _) | (with_reducible refine Below.stepB (by assumption) ?_ ?_) | go_size)), by simp⟩
  case round =>
    clear hO0 HK0 HC
    obtain ⟨k, m, b3, c3, f, rfl, hk1, hk, rfl, hmk, hO, hC, hKp, hzr⟩ := hrel
    by_cases hlt : k < 9
    · go_wp2_with fail
      refine (HON.out (K + 18 * k) 2 _ (by omega) hC.out (by decide)).mono ?_
      rintro e w2 ⟨t, rfl, hD⟩
      have HO2 := Lib.hid (ownsRow_keptC hO.out hD.2 hbl)
      have HK2 := Lib.hid (hKp.out.trans1 hD.2)
      have HC2 := Lib.hid hD.1
      have hz2 := hD.2.size
      clear hD
      cases t
      · go_wp2
        go_roundw
        case rel => exact ⟨k + 1, m, b3, c3, f, by go_num, by omega, by omega, rfl, by omega, HO2.out, HC2.out.more (by omega), HK2.out, by omega⟩
        case measure => simp [intOf]; omega
      · go_wp2_with fail
        refine (HST.out (K + 18 * k + 2) _ _ (by omega) HC2.out).mono ?_
        rintro e w3 ⟨s, rfl, hD⟩
        have HO3 := Lib.hid (ownsRow_keptC HO2.out hD.2 hbl)
        have HK3 := Lib.hid (HK2.out.trans1 hD.2)
        have HC3 := Lib.hid hD.1
        have hz3 := hD.2.size
        clear hD
        go_wp2_with (at_builtin; refine wpList_append_rowS _ rfl _ _ 60 rfl w.heap.size 65 q0 _ 5 40 Try.underlying60 hq0 hy0 hy1 hy2 rfl (by decide) (.slice (some ⟨b3, 0, none⟩) m c3) m (rowSD f m) rfl ((HO3.out.alloc _)) (by simp) _ 0 1 1 (fun _ j => (s).cell j) rfl ?_ (fun _ j => sd_one (fun _ => s) 0 j) (by omega) (by decide) ?_ ?_; go_must (focus exact sd_box (blk_newC _ rfl)); go_must (focus (first | omega | (simp; omega) | (simp; done))); intro b9 c9 w9 hO9 hc9 hb9 hbw9; have hz9 := hbw9.size; (try simp at hz9))
        rw [rowSD_snoc] at hO9
        go_roundw
        case rel => exact ⟨k + 1, m + 1, b9, c9, _, by go_num, by omega, by omega, rfl, by omega, hO9, (HC3.out.belowB (B := w.heap.size) (by repeat' (first | (with_reducible exact Below.refl _ _) | (with_reducible assumption) | (with_reducible refine Below.alloc ?_ ?_ _) | (with_reducible refine Below.drew ?_) | (with_reducible refine Below.setCell ?_ ?_ _) | (with_reducible refine Below.stepB (by assumption) ?_ ?_) | go_size)) hbl).more (by omega), HK3.out.onB (by repeat' (first | (with_reducible exact Below.refl _ _) | (with_reducible assumption) | (with_reducible refine Below.alloc ?_ ?_ _) | (with_reducible refine Below.drew ?_) | (with_reducible refine Below.setCell ?_ ?_ _) | (with_reducible refine Below.stepB (by assumption) ?_ ?_) | go_size)), by omega⟩
        case measure => simp [intOf]; omega
    · obtain rfl : k = 9 := by omega
      go_wp2_with fail
      refine (HPK.out (K + 18 * 9) 32 _ (by omega) hC.out (by decide)).mono ?_
      rintro e w2 ⟨u, rfl, u0, u1, hD⟩
      have HO2 := Lib.hid (ownsRow_keptC hO.out hD.2 hbl)
      have HK2 := Lib.hid (hKp.out.trans1 hD.2)
      have HC2 := Lib.hid hD.1
      have hz2 := hD.2.size
      clear hD
      clear hO hC hKp
      by_cases h0 : u = 0
      · subst h0
        go_wp2_with fail
        refine (HAM.out (K + 18 * 9 + 2) w2.heap.size 4 4 [0, 7, 999, 1000] _ (by omega) (HC2.out.below (by repeat' (first | (with_reducible exact Below.refl _ _) | (with_reducible assumption) | (with_reducible refine Below.alloc ?_ ?_ _) | (with_reducible refine Below.drew ?_) | (with_reducible refine Below.setCell ?_ ?_ _) | (with_reducible refine Below.stepB (by assumption) ?_ ?_) | go_size))) (blk_newC _ (by simp)) (by omega) (by decide) (by decide) (by decide)).mono ?_
        rintro e w3 ⟨z, rfl, hD⟩
        have HO3 := Lib.hid (ownsRow_keptC (HO2.out.alloc _) hD.2 hbl)
        have HK3 := Lib.hid ((HK2.out.onB (show Below w.heap.size w2 _ from by repeat' (first | (with_reducible exact Below.refl _ _) | (with_reducible assumption) | (with_reducible refine Below.alloc ?_ ?_ _) | (with_reducible refine Below.drew ?_) | (with_reducible refine Below.setCell ?_ ?_ _) | (with_reducible refine Below.stepB (by assumption) ?_ ?_) | go_size))).trans1 hD.2)
        have HC3 := Lib.hid hD.1
        have hz3 := hD.2.size
        (try simp at hz3)
        clear hD
        go_wp2_with fail
        refine (HST.out (K + 18 * 9 + 4) _ _ (by omega) HC3.out).mono ?_
        rintro e w4 ⟨s, rfl, hD⟩
        have HO4 := Lib.hid (ownsRow_keptC HO3.out hD.2 hbl)
        have HK4 := Lib.hid (HK3.out.trans1 hD.2)
        have HC4 := Lib.hid hD.1
        have hz4 := hD.2.size
        clear hD
        go_wp2_with (at_builtin; refine wpList_append_rowS _ rfl _ _ 60 rfl w.heap.size 65 q0 _ 5 40 Try.underlying60 hq0 hy0 hy1 hy2 rfl (by decide) (.slice (some ⟨b3, 0, none⟩) m c3) m (rowSD f m) rfl ((HO4.out.alloc _)) (by simp) _ 0 1 1 (fun _ j => (s).cell j) rfl ?_ (fun _ j => sd_one (fun _ => s) 0 j) (by omega) (by decide) ?_ ?_; go_must (focus exact sd_box (blk_newC _ rfl)); go_must (focus (first | omega | (simp; omega) | (simp; done))); intro b9 c9 w9 hO9 hc9 hb9 hbw9; have hz9 := hbw9.size; (try simp at hz9))
        rw [rowSD_snoc] at hO9
        go_ret
        exact ⟨m + 1, b9, c9, _, rfl, by omega, own_flat hO9, (HC4.out.belowB (B := w.heap.size) (by repeat' (first | (with_reducible exact Below.refl _ _) | (with_reducible assumption) | (with_reducible refine Below.alloc ?_ ?_ _) | (with_reducible refine Below.drew ?_) | (with_reducible refine Below.setCell ?_ ?_ _) | (with_reducible refine Below.stepB (by assumption) ?_ ?_) | go_size)) hbl).more (by omega), HK4.out.onB (by repeat' (first | (with_reducible exact Below.refl _ _) | (with_reducible assumption) | (with_reducible refine Below.alloc ?_ ?_ _) | (with_reducible refine Below.drew ?_) | (with_reducible refine Below.setCell ?_ ?_ _) | (with_reducible refine Below.stepB (by assumption) ?_ ?_) | go_size))⟩
      · have hu0 : (u == 0) = false := by simpa using h0
        by_cases h1 : u = 1
        · subst h1
          go_wp2
          go_loopw [3] (fun v3 wr => ∃ (m b3 c3 : Nat) (f : Nat → SD), v3 = .slice (some ⟨b3, 0, none⟩) m c3 ∧ m ≤ 13 ∧ Hid (wr.ownsRow w.heap.size 65 5 (.slice (some ⟨b3, 0, none⟩) m c3) m (rowSD f m)) ∧ Hid (CurS wr b A n c (K + 200 + 2 * m)) ∧ Hid (Kept w wr (some ⟨b, 0, none⟩) 1) ∧ w.heap.size ≤ wr.heap.size) (fun v3 _ => 13 - lenW v3)
          case atStart => exact ⟨m, b3, c3, f, rfl, by omega, HO2.out, HC2.out.more (by omega), HK2.out, by omega⟩
          case round =>
            rename World => wq
            clear HO2 HC2 HK2 hz2 hu0 h0 u0 u1
            obtain ⟨m, b3, c3, f, rfl, hm, hO, hC, hKp, hzq⟩ := hrel
            go_wp2_with fail
            refine (HPK.out (K + 200 + 2 * m) 2 _ (by omega) hC.out (by decide)).mono ?_
            rintro e w3 ⟨x, rfl, x0, x1, hD⟩
            have HO3 := Lib.hid (ownsRow_keptC hO.out hD.2 hbl)
            have HK3 := Lib.hid (hKp.out.trans1 hD.2)
            have HC3 := Lib.hid hD.1
            have hz3 := hD.2.size
            clear hD
            clear hO hC hKp
            by_cases hlt2 : (m : Int) < 12 + x
            · go_wp2_with (at_builtin; refine wpList_append_rowS _ rfl _ _ 60 rfl w.heap.size 65 q0 _ 5 40 Try.underlying60 hq0 hy0 hy1 hy2 rfl (by decide) (.slice (some ⟨b3, 0, none⟩) m c3) m (rowSD f m) rfl ((HO3.out.alloc _)) (by simp) _ 0 1 1 (fun _ j => ((⟨100 + (m : Int), 0, 0, 800, 0⟩ : SD)).cell j) rfl ?_ (fun _ j => sd_one (fun _ => (⟨100 + (m : Int), 0, 0, 800, 0⟩ : SD)) 0 j) (by omega) (by decide) ?_ ?_; go_must (focus exact sd_box (blk_newC _ rfl)); go_must (focus (first | omega | (simp; omega) | (simp; done))); intro b9 c9 w9 hO9 hc9 hb9 hbw9; have hz9 := hbw9.size; (try simp at hz9))
              rw [rowSD_snoc] at hO9
              go_roundw
              case rel => exact ⟨m + 1, b9, c9, _, rfl, by omega, hO9, (HC3.out.belowB (B := w.heap.size) (by repeat' (first | (with_reducible exact Below.refl _ _) | (with_reducible assumption) | (with_reducible refine Below.alloc ?_ ?_ _) | (with_reducible refine Below.drew ?_) | (with_reducible refine Below.setCell ?_ ?_ _) | (with_reducible refine Below.stepB (by assumption) ?_ ?_) | go_size)) hbl).more (by omega), HK3.out.onB (by repeat' (first | (with_reducible exact Below.refl _ _) | (with_reducible assumption) | (with_reducible refine Below.alloc ?_ ?_ _) | (with_reducible refine Below.drew ?_) | (with_reducible refine Below.setCell ?_ ?_ _) | (with_reducible refine Below.stepB (by assumption) ?_ ?_) | go_size)), by omega⟩
              case measure => simp [lenW]; omega
            · go_wp2
              go_ret
              exact ⟨m, b3, c3, f, rfl, by omega, own_flat HO3.out, HC3.out.more (by omega), HK3.out⟩
        · have hu1 : (u == 1) = false := by simpa using h1
          clear h0 h1
          go_wp2
          go_ret
          exact ⟨m, b3, c3, f, rfl, by omega, own_flat HO2.out, HC2.out.more (by omega), HK2.out⟩
end Go.Proofs.Ytfflbkmncnaffaa
