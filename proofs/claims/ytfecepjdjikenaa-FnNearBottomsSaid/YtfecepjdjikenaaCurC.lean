/- Contracts: the draw of a list of samples. -/
import Derived.Test.YtfecepjdjikenaaCurB
import Derived.Test.YtfecepjdjikenaaAnchI
namespace Go.Proofs.Ytfecepjdjikenaa
open Go.RowKit
theorem flatG_snoc {k n : Nat} (f : Nat → Nat → Value) (s : Nat → Value) (hk : 0 < k) : flatG k f n ++ flatG k (fun _ j => s j) 1 = flatG k (fun i j => if i = n then s j else f i j) (n + 1) := by
  refine List.ext_getElem? (fun q => ?_)
  have hl1 := flatG_len k f n
  by_cases hq : q < (n + 1) * k
  · have e1 : q / k < n + 1 := (Nat.div_lt_iff_lt_mul hk).2 hq
    have e2 : q % k < k := Nat.mod_lt _ hk
    have h2 := flatG_get (k := k) (g := fun i j => if i = n then s j else f i j) (n := n + 1) (i := q / k) (j := q % k) e1 e2
    rw [Nat.mul_comm, Nat.div_add_mod] at h2
    rw [h2]
    rcases Nat.lt_or_ge q (n * k) with h3 | h3
    · have e3 : q / k < n := (Nat.div_lt_iff_lt_mul hk).2 h3
      rw [List.getElem?_append_left (by omega)]
      have h4 := flatG_get (k := k) (g := f) (n := n) (i := q / k) (j := q % k) e3 e2
      rw [Nat.mul_comm, Nat.div_add_mod] at h4
      rw [h4, if_neg (by omega)]
    · have e4 : ¬ q / k < n := fun h => by
        have := (Nat.div_lt_iff_lt_mul hk).1 h
        omega
      have e5 : q / k = n := by omega
      rw [List.getElem?_append_right (by omega), hl1, if_pos e5]
      have h5 := Nat.div_add_mod q k
      rw [e5] at h5
      have h6 := flatG_get (k := k) (g := fun _ j => s j) (n := 1) (i := 0) (j := q % k) (by decide) e2
      rw [Nat.zero_mul, Nat.zero_add] at h6
      rw [Nat.mul_comm] at h5
      rw [show q - n * k = q % k by omega]
      exact h6
  · rw [List.getElem?_eq_none (by rw [List.length_append, hl1, flatG_len]; rw [Nat.add_mul] at hq; omega), List.getElem?_eq_none (by rw [flatG_len]; omega)]
def rowBS (f : Nat → BS) (n : Nat) : List Value := flatG 6 (fun i j => (f i).cell j) n
theorem rowBS_snoc (f : Nat → BS) (n : Nat) (s : BS) : rowBS f n ++ flatG 6 (fun _ j => s.cell j) 1 = rowBS (fun i => if i = n then s else f i) (n + 1) := by
  unfold rowBS
  rw [flatG_snoc _ _ (by decide)]
  congr 1
  funext i j
  by_cases h : i = n <;> simp [h]
def lenW : Value → Nat
  | .slice _ n _ => n
  | _ => 0
theorem bs_box {w : World} {g : Nat} {s : BS} (h : Blk w g 29 #[.int .i64 s.id, .int .i64 s.x, .int .i64 s.y, .int .i64 s.mud, .int .i64 s.sand, .int .i64 s.rock]) : ∀ i j, i < 1 → j < 6 → w.cell? ⟨g, 0 + i * 6 + j, none⟩ = some (s.cell j) := fun i j hi hj => by
  obtain rfl : i = 0 := by omega
  have : j = 0 ∨ j = 1 ∨ j = 2 ∨ j = 3 ∨ j = 4 ∨ j = 5 := by omega
  rcases this with rfl | rfl | rfl | rfl | rfl | rfl
  · exact h.cell 0
  · exact h.cell 1
  · exact h.cell 2
  · exact h.cell 3
  · exact h.cell 4
  · exact h.cell 5
set_option maxRecDepth 100000 in
set_option maxHeartbeats 2000000 in
theorem bottoms_any (b : Nat) (A : Option Addr) (n c K : Nat) (w : World) (h : CurS w b A n c K) (hK : K ≤ 990000) (hn : n ≤ 9223372036854775807) :
    Calls Try.prog 84 #[.pointer (some ⟨b, 0, none⟩)] w fun e w' => ∃ (m b' c' : Nat) (f : Nat → BS), e = .returned (.slice (some ⟨b', 0, none⟩) m c') ∧ m ≤ 13 ∧ Own w' w.heap.size 6 (some ⟨b', 0, none⟩) m (fun i j => (f i).cell j) ∧ Drew w b A n c (K + 200) w' := by
  have HBT := Lib.hid (fun K' (id : Int) W (hK : K' ≤ 999900) (hC : CurS W b A n c K') => bottom_any b A n c K' id W hC hK hn)
  have HPK := Lib.hid (fun K' (m : Int) W (hK : K' ≤ 999990) (hC : CurS W b A n c K') (hm : m ≤ 100000) => pick_any b A n c K' m W hC hK hn hm)
  have HON := Lib.hid (fun K' (m : Int) W (hK : K' ≤ 999990) (hC : CurS W b A n c K') (hm : m ≤ 100000) => one_any b A n c K' m W hC hK hn hm)
  have HC := Lib.hid h
  have hbl := h.lt
  clear h
  have HK0 := Lib.hid (Kept.refl w (some ⟨b, 0, none⟩) 1)
  obtain ⟨q0, hq0, hy0, hy1, hy2⟩ := info_parts bs_info
  have hO0 := Lib.hid (ownsRow_empty w 29 6)
  go_enter Try.func84, Try.ntmps84
  go_wp2_with fail
  refine (HPK.out K 8 _ (by omega) (HC.out.below (by repeat' (first | (with_reducible exact Below.refl _ _) | (with_reducible assumption) | (with_reducible refine Below.alloc ?_ ?_ _) | (with_reducible refine Below.drew ?_) | (with_reducible refine Below.setCell ?_ ?_ _) | (with_reducible refine Below.stepB (by assumption) ?_ ?_) | go_size))) (by decide)).mono ?_
  rintro e w1 ⟨x, rfl, x0, x1, hD⟩
  have HO1 := Lib.hid (ownsRow_keptC hO0.out hD.2 hbl)
  have HK1 := Lib.hid ((HK0.out.laterB (show Below w.heap.size w _ from by repeat' (first | (with_reducible exact Below.refl _ _) | (with_reducible assumption) | (with_reducible refine Below.alloc ?_ ?_ _) | (with_reducible refine Below.drew ?_) | (with_reducible refine Below.setCell ?_ ?_ _) | (with_reducible refine Below.stepB (by assumption) ?_ ?_) | go_size))).trans1 hD.2)
  have HC1 := Lib.hid hD.1
  have hz1 := hD.2.size
  (try simp at hz1)
  clear hD hO0
  obtain ⟨q1, rfl⟩ : ∃ q1 : Nat, x = q1 := ⟨x.toNat, by omega⟩
  have hq7 : q1 ≤ 7 := by omega
  clear x0 x1
  go_wp2
  go_loopw [3, 4, 5] (fun v3 v4 v5 wr => ∃ (q m b3 c3 : Nat) (id : Int) (f : Nat → BS), v5 = .int .i64 q ∧ v4 = .int .i64 id ∧ v3 = .slice (some ⟨b3, 0, none⟩) m c3 ∧ m + q ≤ 7 ∧ Hid (wr.ownsRow w.heap.size 29 6 (.slice (some ⟨b3, 0, none⟩) m c3) m (rowBS f m)) ∧ Hid (CurS wr b A n c (K + 2 + 20 * m)) ∧ Hid (Kept w wr (some ⟨b, 0, none⟩) 1) ∧ w.heap.size ≤ wr.heap.size) (fun _ _ v5 _ => (intOf v5).toNat)
  case atStart => exact ⟨q1, 0, _, _, 0, fun _ => noB, rfl, rfl, rfl, by omega, HO1.out, HC1.out, HK1.out, by omega⟩
  case round =>
    clear HO1 HC1 HK1 hz1
    obtain ⟨q, m, b3, c3, id, f, rfl, rfl, rfl, hmq, hO, hC, hKp, hzr⟩ := hrel
    rcases Nat.eq_zero_or_pos q with rfl | hq
    · go_wp2_with fail
      refine (HON.out (K + 2 + 20 * m) 24 _ (by omega) (hC.out) (by decide)).mono ?_
      rintro e w2 ⟨t, rfl, hD⟩
      have HO2 := Lib.hid (ownsRow_keptC hO.out hD.2 hbl)
      have HK2 := Lib.hid (hKp.out.trans1 hD.2)
      have HC2 := Lib.hid hD.1
      have hz2 := hD.2.size
      clear hD hO hC hKp
      cases t
      · go_wp2
        go_ret
        exact ⟨m, b3, c3, f, rfl, by omega, own_flat HO2.out, HC2.out.more (by omega), HK2.out⟩
      · go_wp2
        go_loopw [3, 4] (fun v3 v4 wr => ∃ (m b3 c3 : Nat) (id : Int) (f : Nat → BS), v4 = .int .i64 id ∧ v3 = .slice (some ⟨b3, 0, none⟩) m c3 ∧ m ≤ 13 ∧ Hid (wr.ownsRow w.heap.size 29 6 (.slice (some ⟨b3, 0, none⟩) m c3) m (rowBS f m)) ∧ Hid (CurS wr b A n c (K + 150 + 2 * m)) ∧ Hid (Kept w wr (some ⟨b, 0, none⟩) 1) ∧ w.heap.size ≤ wr.heap.size) (fun v3 _ _ => 13 - lenW v3)
        case atStart => exact ⟨m, b3, c3, id, f, rfl, rfl, by omega, HO2.out, HC2.out.more (by omega), HK2.out, by omega⟩
        case round =>
          rename World => wq
          clear HO2 HC2 HK2 hz2
          obtain ⟨m, b3, c3, id, f, rfl, rfl, hm, hO, hC, hKp, hzq⟩ := hrel
          go_wp2_with fail
          refine (HPK.out (K + 150 + 2 * m) 2 _ (by omega) (hC.out) (by decide)).mono ?_
          rintro e w3 ⟨x, rfl, x0, x1, hD⟩
          have HO3 := Lib.hid (ownsRow_keptC hO.out hD.2 hbl)
          have HK3 := Lib.hid (hKp.out.trans1 hD.2)
          have HC3 := Lib.hid hD.1
          have hz3 := hD.2.size
          clear hD hO hC hKp
          by_cases hlt : (m : Int) < 12 + x
          · go_wp2_with (at_builtin; refine wpList_append_rowS _ rfl _ _ 40 rfl w.heap.size 29 q0 _ 6 48 Try.underlying40 hq0 hy0 hy1 hy2 rfl (by decide) (.slice (some ⟨b3, 0, none⟩) m c3) m (rowBS f m) rfl ((HO3.out.alloc _)) (by simp) _ 0 1 1 (fun _ j => ((⟨wrap64 (id + 1), 0, 0, 50, 30, 20⟩ : BS)).cell j) rfl ?_ (fun _ j => bs_one (fun _ => (⟨wrap64 (id + 1), 0, 0, 50, 30, 20⟩ : BS)) 0 j) (by omega) (by decide) ?_ ?_; go_must (focus exact bs_box (blk_newC _ rfl)); go_must (focus (first | omega | (simp; omega) | (simp; done))); intro b9 c9 w9 hO9 hc9 hb9 hbw9; have hz9 := hbw9.size; (try simp at hz9))
            rw [rowBS_snoc] at hO9
            go_roundw
            case rel =>
              exact ⟨m + 1, b9, c9, _, _, rfl, rfl, by omega, hO9, (HC3.out.belowB (B := w.heap.size) (by repeat' (first | (with_reducible exact Below.refl _ _) | (with_reducible assumption) | (with_reducible refine Below.alloc ?_ ?_ _) | (with_reducible refine Below.drew ?_) | (with_reducible refine Below.setCell ?_ ?_ _) | (with_reducible refine Below.stepB (by assumption) ?_ ?_) | go_size)) hbl).more (by omega), HK3.out.onB (by repeat' (first | (with_reducible exact Below.refl _ _) | (with_reducible assumption) | (with_reducible refine Below.alloc ?_ ?_ _) | (with_reducible refine Below.drew ?_) | (with_reducible refine Below.setCell ?_ ?_ _) | (with_reducible refine Below.stepB (by assumption) ?_ ?_) | go_size)), by omega⟩
            case measure => simp [lenW]; omega
          · go_wp2
            go_ret
            exact ⟨m, b3, c3, f, rfl, by omega, own_flat HO3.out, HC3.out.more (by omega), HK3.out⟩
    · have hqz : (0 : Int) < (q : Int) := by omega
      go_wp2_with fail
      refine (HPK.out (K + 2 + 20 * m) 3 _ (by omega) (hC.out) (by decide)).mono ?_
      rintro e w2 ⟨y, rfl, y0, y1, hD⟩
      have HO2 := Lib.hid (ownsRow_keptC hO.out hD.2 hbl)
      have HK2 := Lib.hid (hKp.out.trans1 hD.2)
      have HC2 := Lib.hid hD.1
      have hz2 := hD.2.size
      clear hD
      go_wp2_with fail
      refine (HPK.out (K + 2 + 20 * m + 2) 80 _ (by omega) (HC2.out) (by decide)).mono ?_
      rintro e w3 ⟨z, rfl, z0, z1, hD⟩
      have HO3 := Lib.hid (ownsRow_keptC HO2.out hD.2 hbl)
      have HK3 := Lib.hid (HK2.out.trans1 hD.2)
      have HC3 := Lib.hid hD.1
      have hz3 := hD.2.size
      clear hD
      go_wp2_with fail
      refine (HBT.out (K + 2 + 20 * m + 4) _ _ (by omega) (HC3.out)).mono ?_
      rintro e w4 ⟨s, rfl, hD⟩
      have HO4 := Lib.hid (ownsRow_keptC HO3.out hD.2 hbl)
      have HK4 := Lib.hid (HK3.out.trans1 hD.2)
      have HC4 := Lib.hid hD.1
      have hz4 := hD.2.size
      clear hD
      go_wp2_with (at_builtin; refine wpList_append_rowS _ rfl _ _ 40 rfl w.heap.size 29 q0 _ 6 48 Try.underlying40 hq0 hy0 hy1 hy2 rfl (by decide) (.slice (some ⟨b3, 0, none⟩) m c3) m (rowBS f m) rfl ((HO4.out.alloc _)) (by simp) _ 0 1 1 (fun _ j => (s).cell j) rfl ?_ (fun _ j => bs_one (fun _ => s) 0 j) (by omega) (by decide) ?_ ?_; go_must (focus exact bs_box (blk_newC _ rfl)); go_must (focus (first | omega | (simp; omega) | (simp; done))); intro b9 c9 w9 hO9 hc9 hb9 hbw9; have hz9 := hbw9.size; (try simp at hz9))
      rw [rowBS_snoc] at hO9
      go_roundw
      case rel =>
        refine ⟨q - 1, m + 1, b9, c9, _, _, by go_num, rfl, rfl, by omega, hO9, (HC4.out.belowB (B := w.heap.size) (by repeat' (first | (with_reducible exact Below.refl _ _) | (with_reducible assumption) | (with_reducible refine Below.alloc ?_ ?_ _) | (with_reducible refine Below.drew ?_) | (with_reducible refine Below.setCell ?_ ?_ _) | (with_reducible refine Below.stepB (by assumption) ?_ ?_) | go_size)) hbl).more (by omega), HK4.out.onB (by repeat' (first | (with_reducible exact Below.refl _ _) | (with_reducible assumption) | (with_reducible refine Below.alloc ?_ ?_ _) | (with_reducible refine Below.drew ?_) | (with_reducible refine Below.setCell ?_ ?_ _) | (with_reducible refine Below.stepB (by assumption) ?_ ?_) | go_size)), by omega⟩
      case measure => simp [intOf]; omega
end Go.Proofs.Ytfecepjdjikenaa
