/- Contracts: the draws of a distance, of a time, of a list of dangers. -/
import Derived.Test.YtclcgckledbpfaaDoorDrawA
namespace Go.Proofs.YtclcgckledbpfaaDoor
open Go.RowKit
/-- a number of some, among the first few -/
theorem quo_bd {x : Int} (x0 : 0 ≤ x) (x1 : x < 24) : 0 ≤ x.tdiv 11 ∧ x.tdiv 11 ≤ 2 := by
  rw [Int.tdiv_eq_ediv_of_nonneg x0]
  omega
theorem time17_any (b : Nat) (A : Option Addr) (n c K : Nat) (w : World) (h : CurS w b A n c K) (hK : K ≤ 999900) (hn : n ≤ 9223372036854775807) :
    Calls Tryd.prog 45 #[.pointer (some ⟨b, 0, none⟩)] w fun e w' => ∃ x : Int, e = .returned (.int .i64 x) ∧ Drew w b A n c (K + 4) w' := by
  have HPK := Lib.hid (fun K' (m : Int) W (hK : K' ≤ 999990) (hC : CurS W b A n c K') (hm : m ≤ 100000) => pick_any b A n c K' m W hC hK hn hm)
  have HAM := Lib.hid (fun K' g m c2 ls W (hK : K' ≤ 999990) (hC : CurS W b A n c K') hB hg hm0 hm hl => among_any b A n c K' g m c2 ls W hC hK hn hB hg hm0 hm hl)
  have HC := Lib.hid h
  have hbl := h.lt
  clear h
  have HK0 := Lib.hid (Kept.refl w (some ⟨b, 0, none⟩) 1)
  go_enter Tryd.func45, Tryd.ntmps45
  go_wp2_with fail
  refine (HPK.out K 24 _ (by omega) (HC.out.below (by repeat' (first | (with_reducible exact Below.refl _ _) | (with_reducible assumption) | (with_reducible refine Below.alloc ?_ ?_ _) | (with_reducible refine Below.drew ?_) | (with_reducible refine Below.setCell ?_ ?_ _) | (with_reducible refine Below.stepB (by assumption) ?_ ?_) | go_size))) (by decide)).mono ?_
  rintro e w1 ⟨x, rfl, x0, x1, hD⟩
  have HL1 := Lib.hid (Blk.keptC (blk_newC (g := w.heap.size) (t := 3) (cs := (([99, 100, 5000, 10000, 10000, -1, 10001] : List Int).map (Value.int .i64)).toArray) w rfl) hD.2 (by omega))
  have HK1 := Lib.hid ((HK0.out.laterB (show Below w.heap.size w _ from by repeat' (first | (with_reducible exact Below.refl _ _) | (with_reducible assumption) | (with_reducible refine Below.alloc ?_ ?_ _) | (with_reducible refine Below.drew ?_) | (with_reducible refine Below.setCell ?_ ?_ _) | (with_reducible refine Below.stepB (by assumption) ?_ ?_) | go_size))).trans1 hD.2)
  have HC1 := Lib.hid hD.1
  have hz1 := hD.2.size
  (try simp at hz1)
  clear hD
  have hx : x < 24 := by omega
  have hx0 : 0 ≤ x := x0
  go_wp2_with fail
  refine (HAM.out (K + 2) w.heap.size (5 + x / 11).toNat 7 [99, 100, 5000, 10000, 10000, -1, 10001] w1 (by omega) HC1.out HL1.out (by omega) (by omega) (by simp; omega) (by decide)).mono ?_
  rintro e w2 ⟨y, rfl, hD⟩
  have HK2 := Lib.hid (HK1.out.trans1 hD.2)
  have HC2 := Lib.hid hD.1
  clear hD
  go_wp2
  go_ret
  exact ⟨y, rfl, HC2.out, HK2.out⟩
def rowDG (f : Nat → DG) (n : Nat) : List Value := flatG 7 (fun i j => (f i).cell j) n
theorem rowDG_snoc (f : Nat → DG) (n : Nat) (s : DG) : rowDG f n ++ flatG 7 (fun _ j => s.cell j) 1 = rowDG (fun i => if i = n then s else f i) (n + 1) := by
  unfold rowDG
  rw [flatG_snoc _ _ (by decide)]
  congr 1
  funext i j
  by_cases h : i = n <;> simp [h]
theorem dgw_one (f : Nat → DG) (i j : Nat) : ((f i).cell j).oneCell' = true := by
  unfold DG.cell
  split <;> rfl
theorem dg_box {w : World} {g : Nat} {s : DG} (h : Blk w g 30 #[.int .i64 s.id, .int .i64 s.kind, .int .i64 s.x, .int .i64 s.y, .int .i64 s.least, .int .i64 s.quality, .int .i64 s.seen]) : ∀ i j, i < 1 → j < 7 → w.cell? ⟨g, 0 + i * 7 + j, none⟩ = some (s.cell j) := fun i j hi hj => by
  obtain rfl : i = 0 := by omega
  have : j = 0 ∨ j = 1 ∨ j = 2 ∨ j = 3 ∨ j = 4 ∨ j = 5 ∨ j = 6 := by omega
  rcases this with rfl | rfl | rfl | rfl | rfl | rfl | rfl
  · exact h.cell 0
  · exact h.cell 1
  · exact h.cell 2
  · exact h.cell 3
  · exact h.cell 4
  · exact h.cell 5
  · exact h.cell 6
theorem ownsRow_capD {w : World} {base : Nat} {e : TypeId} {k n c : Nat} {A : Option Addr} {xs : List Value} (h : w.ownsRow base e k (.slice A n c) n xs) : n ≤ c := by
  rcases h.2 with ⟨hv, h0⟩ | ⟨g, cap, cur, hv, hb, hh, hnc, _⟩
  · omega
  · injection hv with _ _ h3
    omega
def lenW : Value → Nat
  | .slice _ n _ => n
  | _ => 0
def zDG : DG := ⟨0, 0, 0, 0, 0, 0, 0⟩
set_option maxRecDepth 100000 in
set_option maxHeartbeats 2000000 in
theorem dangers_any (b : Nat) (A : Option Addr) (n c K : Nat) (w : World) (h : CurS w b A n c K) (hK : K ≤ 990000) (hn : n ≤ 9223372036854775807) :
    Calls Tryd.prog 38 #[.pointer (some ⟨b, 0, none⟩)] w fun e w' => ∃ (m b' c' : Nat) (f : Nat → DG), e = .returned (.slice (some ⟨b', 0, none⟩) m c') ∧ m ≤ 13 ∧ m ≤ c' ∧ Own w' w.heap.size 7 (some ⟨b', 0, none⟩) m (fun i j => (f i).cell j) ∧ Drew w b A n c (K + 300) w' := by
  have HBT := Lib.hid (fun K' (id : Int) W (hK : K' ≤ 999800) (hC : CurS W b A n c K') => danger_any b A n c K' id W hC hK hn)
  have HPK := Lib.hid (fun K' (m : Int) W (hK : K' ≤ 999990) (hC : CurS W b A n c K') (hm : m ≤ 100000) => pick_any b A n c K' m W hC hK hn hm)
  have HON := Lib.hid (fun K' (m : Int) W (hK : K' ≤ 999990) (hC : CurS W b A n c K') (hm : m ≤ 100000) => one_any b A n c K' m W hC hK hn hm)
  have HC := Lib.hid h
  have hbl := h.lt
  clear h
  have HK0 := Lib.hid (Kept.refl w (some ⟨b, 0, none⟩) 1)
  obtain ⟨q0, hq0, hy0, hy1, hy2⟩ := info_parts info_Danger
  have hO0 := Lib.hid (ownsRow_empty w 30 7)
  go_enter Tryd.func38, Tryd.ntmps38
  go_wp2_with fail
  refine (HPK.out K 8 _ (by omega) (HC.out.below (by repeat' (first | (with_reducible exact Below.refl _ _) | (with_reducible assumption) | (with_reducible refine Below.alloc ?_ ?_ _) | (with_reducible refine Below.drew ?_) | (with_reducible refine Below.setCell ?_ ?_ _) | (with_reducible refine Below.stepB (by assumption) ?_ ?_) | go_size))) (by decide)).mono ?_
  rintro e w1 ⟨x, rfl, x0, x1, hD⟩
  have HO1 := Lib.hid (ownsRow_keptC hO0.out hD.2 hbl)
  have HK1 := Lib.hid ((HK0.out.laterB (show Below w.heap.size w _ from by repeat' (first | (with_reducible exact Below.refl _ _) | (with_reducible assumption) | (with_reducible refine Below.alloc ?_ ?_ _) | (with_reducible refine Below.drew ?_) | (with_reducible refine Below.setCell ?_ ?_ _) | (with_reducible refine Below.stepB (by assumption) ?_ ?_) | go_size))).trans1 hD.2)
  have HC1 := Lib.hid hD.1
  have hz1 := hD.2.size
  (try simp at hz1)
  clear hD hO0
  obtain ⟨q1, rfl⟩ : ∃ q1 : Nat, x = q1 := ⟨x.toNat, by omega⟩
  have hq7 : q1 ≤ 7 := by omega
  clear x0 x1
  go_wp2
  go_loopw [3, 4, 5] (fun v3 v4 v5 wr => ∃ (q m b3 c3 : Nat) (id : Int) (f : Nat → DG), v5 = .int .i64 q ∧ v4 = .int .i64 id ∧ v3 = .slice (some ⟨b3, 0, none⟩) m c3 ∧ m + q ≤ 7 ∧ Hid (wr.ownsRow w.heap.size 30 7 (.slice (some ⟨b3, 0, none⟩) m c3) m (rowDG f m)) ∧ Hid (CurS wr b A n c (K + 2 + 24 * m)) ∧ Hid (Kept w wr (some ⟨b, 0, none⟩) 1) ∧ w.heap.size ≤ wr.heap.size) (fun _ _ v5 _ => (intOf v5).toNat)
  case atStart => exact ⟨q1, 0, _, _, 0, fun _ => zDG, rfl, rfl, rfl, by omega, HO1.out, HC1.out, HK1.out, by omega⟩
  case round =>
    clear HO1 HC1 HK1 hz1
    obtain ⟨q, m, b3, c3, id, f, rfl, rfl, rfl, hmq, hO, hC, hKp, hzr⟩ := hrel
    rcases Nat.eq_zero_or_pos q with rfl | hq
    · go_wp2_with fail
      refine (HON.out (K + 2 + 24 * m) 24 _ (by omega) (hC.out) (by decide)).mono ?_
      rintro e w2 ⟨t, rfl, hD⟩
      have HO2 := Lib.hid (ownsRow_keptC hO.out hD.2 hbl)
      have HK2 := Lib.hid (hKp.out.trans1 hD.2)
      have HC2 := Lib.hid hD.1
      have hz2 := hD.2.size
      clear hD
      clear hO hC hKp
      cases t
      · go_wp2
        go_ret
        exact ⟨m, b3, c3, f, rfl, by omega, ownsRow_capD HO2.out, own_flat HO2.out, HC2.out.more (by omega), HK2.out⟩
      · go_wp2
        go_loopw [3, 4] (fun v3 v4 wr => ∃ (m b3 c3 : Nat) (id : Int) (f : Nat → DG), v4 = .int .i64 id ∧ v3 = .slice (some ⟨b3, 0, none⟩) m c3 ∧ m ≤ 13 ∧ Hid (wr.ownsRow w.heap.size 30 7 (.slice (some ⟨b3, 0, none⟩) m c3) m (rowDG f m)) ∧ Hid (CurS wr b A n c (K + 200 + 2 * m)) ∧ Hid (Kept w wr (some ⟨b, 0, none⟩) 1) ∧ w.heap.size ≤ wr.heap.size) (fun v3 _ _ => 13 - lenW v3)
        case atStart => exact ⟨m, b3, c3, id, f, rfl, rfl, by omega, HO2.out, HC2.out.more (by omega), HK2.out, by omega⟩
        case round =>
          rename World => wq
          clear HO2 HC2 HK2 hz2
          obtain ⟨m, b3, c3, id, f, rfl, rfl, hm, hO, hC, hKp, hzq⟩ := hrel
          go_wp2_with fail
          refine (HPK.out (K + 200 + 2 * m) 2 _ (by omega) (hC.out) (by decide)).mono ?_
          rintro e w3 ⟨x, rfl, x0, x1, hD⟩
          have HO3 := Lib.hid (ownsRow_keptC hO.out hD.2 hbl)
          have HK3 := Lib.hid (hKp.out.trans1 hD.2)
          have HC3 := Lib.hid hD.1
          have hz3 := hD.2.size
          clear hD
          clear hO hC hKp
          by_cases hlt : (m : Int) < 10 + x
          · go_wp2_with (at_builtin; refine wpList_append_rowS _ rfl _ _ 39 rfl w.heap.size 30 q0 _ 7 56 Tryd.underlying39 hq0 hy0 hy1 hy2 rfl (by decide) (.slice (some ⟨b3, 0, none⟩) m c3) m (rowDG f m) rfl ((HO3.out.alloc _)) (by simp) _ 0 1 1 (fun _ j => ((⟨wrap64 (id + 1), 0, 0, 0, wrap64 (10 * wrap64 (id + 1)), 0, 0⟩ : DG)).cell j) rfl ?_ (fun _ j => dgw_one (fun _ => (⟨wrap64 (id + 1), 0, 0, 0, wrap64 (10 * wrap64 (id + 1)), 0, 0⟩ : DG)) 0 j) (by omega) (by decide) ?_ ?_; go_must (focus exact dg_box (blk_newC _ rfl)); go_must (focus (first | omega | (simp; omega) | (simp; done))); intro b9 c9 w9 hO9 hc9 hb9 hbw9; have hz9 := hbw9.size; (try simp at hz9))
            rw [rowDG_snoc] at hO9
            go_roundw
            case rel =>
              exact ⟨m + 1, b9, c9, _, _, rfl, rfl, by omega, hO9, (HC3.out.belowB (B := w.heap.size) (by repeat' (first | (with_reducible exact Below.refl _ _) | (with_reducible assumption) | (with_reducible refine Below.alloc ?_ ?_ _) | (with_reducible refine Below.drew ?_) | (with_reducible refine Below.setCell ?_ ?_ _) | (with_reducible refine Below.stepB (by assumption) ?_ ?_) | go_size)) hbl).more (by omega), HK3.out.onB (by repeat' (first | (with_reducible exact Below.refl _ _) | (with_reducible assumption) | (with_reducible refine Below.alloc ?_ ?_ _) | (with_reducible refine Below.drew ?_) | (with_reducible refine Below.setCell ?_ ?_ _) | (with_reducible refine Below.stepB (by assumption) ?_ ?_) | go_size)), by omega⟩
            case measure => simp [lenW]; omega
          · go_wp2
            go_ret
            exact ⟨m, b3, c3, f, rfl, by omega, ownsRow_capD HO3.out, own_flat HO3.out, HC3.out.more (by omega), HK3.out⟩
    · have hqz : (0 : Int) < (q : Int) := by omega
      go_wp2_with fail
      refine (HPK.out (K + 2 + 24 * m) 3 _ (by omega) (hC.out) (by decide)).mono ?_
      rintro e w2 ⟨y, rfl, y0, y1, hD⟩
      have HO2 := Lib.hid (ownsRow_keptC hO.out hD.2 hbl)
      have HK2 := Lib.hid (hKp.out.trans1 hD.2)
      have HC2 := Lib.hid hD.1
      have hz2 := hD.2.size
      clear hD
      go_wp2_with fail
      refine (HPK.out (K + 2 + 24 * m + 2) 80 _ (by omega) (HC2.out) (by decide)).mono ?_
      rintro e w3 ⟨z, rfl, z0, z1, hD⟩
      have HO3 := Lib.hid (ownsRow_keptC HO2.out hD.2 hbl)
      have HK3 := Lib.hid (HK2.out.trans1 hD.2)
      have HC3 := Lib.hid hD.1
      have hz3 := hD.2.size
      clear hD
      go_wp2_with fail
      refine (HBT.out (K + 2 + 24 * m + 4) _ _ (by omega) (HC3.out)).mono ?_
      rintro e w4 ⟨s, rfl, hD⟩
      have HO4 := Lib.hid (ownsRow_keptC HO3.out hD.2 hbl)
      have HK4 := Lib.hid (HK3.out.trans1 hD.2)
      have HC4 := Lib.hid hD.1
      have hz4 := hD.2.size
      clear hD
      go_wp2_with (at_builtin; refine wpList_append_rowS _ rfl _ _ 39 rfl w.heap.size 30 q0 _ 7 56 Tryd.underlying39 hq0 hy0 hy1 hy2 rfl (by decide) (.slice (some ⟨b3, 0, none⟩) m c3) m (rowDG f m) rfl ((HO4.out.alloc _)) (by simp) _ 0 1 1 (fun _ j => (s).cell j) rfl ?_ (fun _ j => dgw_one (fun _ => s) 0 j) (by omega) (by decide) ?_ ?_; go_must (focus exact dg_box (blk_newC _ rfl)); go_must (focus (first | omega | (simp; omega) | (simp; done))); intro b9 c9 w9 hO9 hc9 hb9 hbw9; have hz9 := hbw9.size; (try simp at hz9))
      rw [rowDG_snoc] at hO9
      go_roundw
      case rel =>
        refine ⟨q - 1, m + 1, b9, c9, _, _, by go_num, rfl, rfl, by omega, hO9, (HC4.out.belowB (B := w.heap.size) (by repeat' (first | (with_reducible exact Below.refl _ _) | (with_reducible assumption) | (with_reducible refine Below.alloc ?_ ?_ _) | (with_reducible refine Below.drew ?_) | (with_reducible refine Below.setCell ?_ ?_ _) | (with_reducible refine Below.stepB (by assumption) ?_ ?_) | go_size)) hbl).more (by omega), HK4.out.onB (by repeat' (first | (with_reducible exact Below.refl _ _) | (with_reducible assumption) | (with_reducible refine Below.alloc ?_ ?_ _) | (with_reducible refine Below.drew ?_) | (with_reducible refine Below.setCell ?_ ?_ _) | (with_reducible refine Below.stepB (by assumption) ?_ ?_) | go_size)), by omega⟩
      case measure => simp [intOf]; omega
end Go.Proofs.YtclcgckledbpfaaDoor
