/- Contracts: the draw of an edit list. -/
import Derived.Test.YtbgpmbaonjehbaaEdO
import Derived.Test.YtbgpmbaonjehbaaEdI
namespace Go.Proofs.Ytbgpmbaonjehbaa
open Go.RowKit
/-- a number of soundings and steps, drawn -/
def EditsOut (w : World) (b : Nat) (A : Option Addr) (n c K : Nat) (e : Ending) (w' : World) : Prop :=
  ∃ (marks : Int) (m b' c' : Nat) (f : Nat → ES), e = .returned (.tuple #[.int .i64 marks, .slice (some ⟨b', 0, none⟩) m c']) ∧ m ≤ 21 ∧ m ≤ c' ∧ Own w' w.heap.size 4 (some ⟨b', 0, none⟩) m (fun i j => (f i).cell j) ∧ Drew w b A n c (K + 600) w'
def noE : ES := ⟨0, 0, 0, [], by decide⟩
def lenW : Value → Nat
  | .slice _ n _ => n
  | _ => 0
set_option maxRecDepth 100000 in
set_option maxHeartbeats 4000000 in
theorem edits_any (b : Nat) (A : Option Addr) (n c K : Nat) (w : World) (h : CurS w b A n c K) (hK : K ≤ 990000) (hn : n ≤ 9223372036854775807) :
    Calls Try.prog 34 #[.pointer (some ⟨b, 0, none⟩)] w fun e w' => EditsOut w b A n c K e w' := by
  have HPK := Lib.hid (fun K' (m : Int) W (hK : K' ≤ 999990) (hC : CurS W b A n c K') (hm : m ≤ 100000) => pick_any b A n c K' m W hC hK hn hm)
  have HON := Lib.hid (fun K' (m : Int) W (hK : K' ≤ 999990) (hC : CurS W b A n c K') (hm : m ≤ 100000) => one_any b A n c K' m W hC hK hn hm)
  have HAM := Lib.hid (fun K' g m c2 ls W (hK : K' ≤ 999990) (hC : CurS W b A n c K') hB hg hm0 hm hl => among_any b A n c K' g m c2 ls W hC hK hn hB hg hm0 hm hl)
  have HST := Lib.hid (fun K' (marks : Int) W (hK : K' ≤ 999900) (hC : CurS W b A n c K') => editStep_any b A n c K' marks W hC hK hn)
  have HC := Lib.hid h
  have hbl := h.lt
  clear h
  have HK0 := Lib.hid (Kept.refl w (some ⟨b, 0, none⟩) 1)
  obtain ⟨q0, hq0, hy0, hy1, hy2⟩ := info_parts es_info
  go_enter Try.func34, Try.ntmps34
  go_wp2_with fail
  refine (HAM.out K w.heap.size 5 5 [1, 2, 3, 5, 15] _ (by omega) (HC.out.below (by repeat' (first | (with_reducible exact Below.refl _ _) | (with_reducible assumption) | (with_reducible refine Below.alloc ?_ ?_ _) | (with_reducible refine Below.drew ?_) | (with_reducible refine Below.setCell ?_ ?_ _) | (with_reducible refine Below.stepB (by assumption) ?_ ?_) | go_size))) ?_ (by omega) (by decide) (by decide) (by decide)).mono ?_
  · exact blk_newC _ rfl
  rintro e w1 ⟨marks, rfl, hD⟩
  have HK1 := Lib.hid ((HK0.out.laterB (show Below w.heap.size w _ from by repeat' (first | (with_reducible exact Below.refl _ _) | (with_reducible assumption) | (with_reducible refine Below.alloc ?_ ?_ _) | (with_reducible refine Below.drew ?_) | (with_reducible refine Below.setCell ?_ ?_ _) | (with_reducible refine Below.stepB (by assumption) ?_ ?_) | go_size))).trans1 hD.2)
  have HC1 := Lib.hid hD.1
  have hz1 := hD.2.size
  (try simp at hz1)
  clear hD
  have HO1 := Lib.hid (ownsRow_empty w1 26 4)
  go_wp2_with fail
  refine (HPK.out (K + 2) 15 _ (by omega) (HC1.out.below (by repeat' (first | (with_reducible exact Below.refl _ _) | (with_reducible assumption) | (with_reducible refine Below.alloc ?_ ?_ _) | (with_reducible refine Below.drew ?_) | (with_reducible refine Below.setCell ?_ ?_ _) | (with_reducible refine Below.stepB (by assumption) ?_ ?_) | go_size))) (by decide)).mono ?_
  rintro e w2 ⟨x, rfl, x0, x1, hD⟩
  have HO2 := Lib.hid (ownsRow_keptC HO1.out hD.2 (by omega))
  have HK2 := Lib.hid ((HK1.out.laterB (show Below w1.heap.size w1 _ from by repeat' (first | (with_reducible exact Below.refl _ _) | (with_reducible assumption) | (with_reducible refine Below.alloc ?_ ?_ _) | (with_reducible refine Below.drew ?_) | (with_reducible refine Below.setCell ?_ ?_ _) | (with_reducible refine Below.stepB (by assumption) ?_ ?_) | go_size))).trans1 hD.2)
  have HC2 := Lib.hid hD.1
  have hz2 := hD.2.size
  (try simp at hz2)
  clear hD HO1
  obtain ⟨q1, rfl⟩ : ∃ q1 : Nat, x = q1 := ⟨x.toNat, by omega⟩
  have hq14 : q1 ≤ 14 := by omega
  clear x0 x1
  go_wp2
  go_loopw [5, 6] (fun v5 v6 wr => ∃ (q m b3 c3 : Nat) (f : Nat → ES), v6 = .int .i64 q ∧ v5 = .slice (some ⟨b3, 0, none⟩) m c3 ∧ m + q ≤ 14 ∧ m ≤ c3 ∧ Hid (wr.ownsRow w.heap.size 26 4 (.slice (some ⟨b3, 0, none⟩) m c3) m (rowES f m)) ∧ Hid (CurS wr b A n c (K + 4 + 14 * (14 - q))) ∧ Hid (Kept w wr (some ⟨b, 0, none⟩) 1) ∧ w.heap.size ≤ wr.heap.size) (fun _ v6 _ => (intOf v6).toNat)
  case atStart => exact ⟨q1, 0, _, _, fun _ => noE, rfl, rfl, by omega, Nat.zero_le _, ownsRow_low HO2.out (by omega), HC2.out.more (by omega), HK2.out, by omega⟩
  case round =>
    clear HO2 HC2 HK2 hz2
    obtain ⟨q, m, b3, c3, f, rfl, rfl, hmq, hmc, hO, hC, hKp, hzr⟩ := hrel
    rcases Nat.eq_zero_or_pos q with rfl | hq
    · go_wp2_with fail
      refine (HPK.out (K + 200) 30 _ (by omega) (hC.out.more (by omega)) (by decide)).mono ?_
      rintro e w2 ⟨u, rfl, -, -, hD⟩
      have HO2 := Lib.hid (ownsRow_keptC hO.out hD.2 hbl)
      have HK2 := Lib.hid (hKp.out.trans1 hD.2)
      have HC2 := Lib.hid hD.1
      have hz2 := hD.2.size
      clear hD hO hC hKp
      by_cases u0 : u = 0
      · subst u0
        go_wp2_with fail
        refine (HAM.out (K + 202) w2.heap.size 3 3 [0, 16, -1] _ (by omega) (HC2.out.below (by repeat' (first | (with_reducible exact Below.refl _ _) | (with_reducible assumption) | (with_reducible refine Below.alloc ?_ ?_ _) | (with_reducible refine Below.drew ?_) | (with_reducible refine Below.setCell ?_ ?_ _) | (with_reducible refine Below.stepB (by assumption) ?_ ?_) | go_size))) ?_ (by omega) (by decide) (by decide) (by decide)).mono ?_
        · exact blk_newC _ rfl
        rintro e w3 ⟨marks2, rfl, hD⟩
        have HO3 := Lib.hid (ownsRow_keptC (ownsRow_below HO2.out (show Below w2.heap.size w2 _ from by repeat' (first | (with_reducible exact Below.refl _ _) | (with_reducible assumption) | (with_reducible refine Below.alloc ?_ ?_ _) | (with_reducible refine Below.drew ?_) | (with_reducible refine Below.setCell ?_ ?_ _) | (with_reducible refine Below.stepB (by assumption) ?_ ?_) | go_size))) hD.2 hbl)
        have HK3 := Lib.hid ((HK2.out.laterB (show Below w2.heap.size w2 _ from by repeat' (first | (with_reducible exact Below.refl _ _) | (with_reducible assumption) | (with_reducible refine Below.alloc ?_ ?_ _) | (with_reducible refine Below.drew ?_) | (with_reducible refine Below.setCell ?_ ?_ _) | (with_reducible refine Below.stepB (by assumption) ?_ ?_) | go_size))).trans1 hD.2)
        have HC3 := Lib.hid hD.1
        clear hD
        go_wp2
        go_ret2
        exact ⟨marks2, m, b3, c3, f, rfl, by omega, hmc, own_steps HO3.out, HC3.out.more (by omega), HK3.out⟩
      have e0 : (u == 0) = false := beq_eq_false_iff_ne.2 u0
      by_cases u1 : u = 1
      · subst u1
        clear e0 u0
        have HOE := Lib.hid (ownsRow_empty w2 26 4)
        go_wp2
        go_loopw [5, 8] (fun v5 v8 wr => ∃ (i b3 c3 : Nat) (f : Nat → ES), v8 = .int .i64 i ∧ v5 = .slice (some ⟨b3, 0, none⟩) i c3 ∧ i ≤ 21 ∧ i ≤ c3 ∧ Hid (wr.ownsRow w.heap.size 26 4 (.slice (some ⟨b3, 0, none⟩) i c3) i (rowES f i)) ∧ Hid (CurS wr b A n c (K + 300 + 2 * i)) ∧ Hid (Kept w wr (some ⟨b, 0, none⟩) 1) ∧ w.heap.size ≤ wr.heap.size) (fun v5 _ _ => 30 - lenW v5)
        case atStart => exact ⟨0, _, _, fun _ => noE, rfl, rfl, by omega, Nat.zero_le _, ownsRow_low HOE.out (by omega), (HC2.out.below (by repeat' (first | (with_reducible exact Below.refl _ _) | (with_reducible assumption) | (with_reducible refine Below.alloc ?_ ?_ _) | (with_reducible refine Below.drew ?_) | (with_reducible refine Below.setCell ?_ ?_ _) | (with_reducible refine Below.stepB (by assumption) ?_ ?_) | go_size))).more (by omega), HK2.out.laterB (by repeat' (first | (with_reducible exact Below.refl _ _) | (with_reducible assumption) | (with_reducible refine Below.alloc ?_ ?_ _) | (with_reducible refine Below.drew ?_) | (with_reducible refine Below.setCell ?_ ?_ _) | (with_reducible refine Below.stepB (by assumption) ?_ ?_) | go_size)), by simp; omega⟩
        case round =>
          rename World => wq
          clear HO2 HC2 HK2 hz2 HOE
          obtain ⟨i, b3, c3, f, rfl, rfl, hi, hic, hO, hC, hKp, hzq⟩ := hrel
          go_wp2_with fail
          refine (HPK.out (K + 300 + 2 * i) 2 _ (by omega) (hC.out) (by decide)).mono ?_
          rintro e w3 ⟨x, rfl, x0, x1, hD⟩
          have HO3 := Lib.hid (ownsRow_keptC hO.out hD.2 hbl)
          have HK3 := Lib.hid (hKp.out.trans1 hD.2)
          have HC3 := Lib.hid hD.1
          have hz3 := hD.2.size
          clear hD hO hC hKp
          by_cases hlt : (i : Int) < 20 + x
          · go_wp2_with (at_builtin; refine wpList_append_rowS _ rfl _ _ 24 rfl w.heap.size 26 q0 _ 4 40 Try.underlying24 hq0 hy0 hy1 hy2 rfl (by decide) (.slice (some ⟨b3, 0, none⟩) i c3) i (rowES f i) rfl ((ownsRow_below HO3.out (show Below w3.heap.size w3 _ from by repeat' (first | (with_reducible exact Below.refl _ _) | (with_reducible assumption) | (with_reducible refine Below.alloc ?_ ?_ _) | (with_reducible refine Below.drew ?_) | (with_reducible refine Below.setCell ?_ ?_ _) | (with_reducible refine Below.stepB (by assumption) ?_ ?_) | go_size)))) (by simp) _ 0 1 1 (fun _ j => ((⟨(i : Int) % 2, 0, 0, [116, 101, 115, 116], by decide⟩ : ES)).cell j) rfl ?_ (fun _ j => es_one (fun _ => (⟨(i : Int) % 2, 0, 0, [116, 101, 115, 116], by decide⟩ : ES)) 0 j) (by omega) (by decide) ?_ ?_; go_must (focus exact es_box (blk_newC _ (by simp))); go_must (focus (first | omega | (simp; omega) | (simp; done))); intro b9 c9 w9 hO9 hc9 hb9 hbw9; have hz9 := hbw9.size; (try simp at hz9))
            rw [rowES_snoc] at hO9
            go_roundw
            case rel =>
              exact ⟨i + 1, b9, c9, _, by go_num, rfl, by omega, hc9, hO9, (HC3.out.belowB (B := w.heap.size) (by repeat' (first | (with_reducible exact Below.refl _ _) | (with_reducible assumption) | (with_reducible refine Below.alloc ?_ ?_ _) | (with_reducible refine Below.drew ?_) | (with_reducible refine Below.setCell ?_ ?_ _) | (with_reducible refine Below.stepB (by assumption) ?_ ?_) | go_size)) hbl).more (by omega), HK3.out.onB (by repeat' (first | (with_reducible exact Below.refl _ _) | (with_reducible assumption) | (with_reducible refine Below.alloc ?_ ?_ _) | (with_reducible refine Below.drew ?_) | (with_reducible refine Below.setCell ?_ ?_ _) | (with_reducible refine Below.stepB (by assumption) ?_ ?_) | go_size)), by omega⟩
            case measure => simp [lenW]; omega
          · go_wp2
            go_ret2
            exact ⟨_, i, b3, c3, f, rfl, by omega, hic, own_steps HO3.out, HC3.out.more (by omega), HK3.out⟩
      have e1 : (u == 1) = false := beq_eq_false_iff_ne.2 u1
      by_cases u2 : u = 2
      · subst u2
        clear e0 e1 u0 u1
        have HOE := Lib.hid (ownsRow_empty w2 26 4)
        go_wp2
        go_loopw [5, 9] (fun v5 v8 wr => ∃ (i b3 c3 : Nat) (f : Nat → ES), v8 = .int .i64 i ∧ v5 = .slice (some ⟨b3, 0, none⟩) i c3 ∧ i ≤ 21 ∧ i ≤ c3 ∧ Hid (wr.ownsRow w.heap.size 26 4 (.slice (some ⟨b3, 0, none⟩) i c3) i (rowES f i)) ∧ Hid (CurS wr b A n c (K + 300 + 2 * i)) ∧ Hid (Kept w wr (some ⟨b, 0, none⟩) 1) ∧ w.heap.size ≤ wr.heap.size) (fun v5 _ _ => 30 - lenW v5)
        case atStart => exact ⟨0, _, _, fun _ => noE, rfl, rfl, by omega, Nat.zero_le _, ownsRow_low HOE.out (by omega), (HC2.out.below (by repeat' (first | (with_reducible exact Below.refl _ _) | (with_reducible assumption) | (with_reducible refine Below.alloc ?_ ?_ _) | (with_reducible refine Below.drew ?_) | (with_reducible refine Below.setCell ?_ ?_ _) | (with_reducible refine Below.stepB (by assumption) ?_ ?_) | go_size))).more (by omega), HK2.out.laterB (by repeat' (first | (with_reducible exact Below.refl _ _) | (with_reducible assumption) | (with_reducible refine Below.alloc ?_ ?_ _) | (with_reducible refine Below.drew ?_) | (with_reducible refine Below.setCell ?_ ?_ _) | (with_reducible refine Below.stepB (by assumption) ?_ ?_) | go_size)), by simp; omega⟩
        case round =>
          rename World => wq
          clear HO2 HC2 HK2 hz2 HOE
          obtain ⟨i, b3, c3, f, rfl, rfl, hi, hic, hO, hC, hKp, hzq⟩ := hrel
          go_wp2_with fail
          refine (HPK.out (K + 300 + 2 * i) 2 _ (by omega) (hC.out) (by decide)).mono ?_
          rintro e w3 ⟨x, rfl, x0, x1, hD⟩
          have HO3 := Lib.hid (ownsRow_keptC hO.out hD.2 hbl)
          have HK3 := Lib.hid (hKp.out.trans1 hD.2)
          have HC3 := Lib.hid hD.1
          have hz3 := hD.2.size
          clear hD hO hC hKp
          by_cases hlt : (i : Int) < 5 + x
          · go_wp2_with (at_builtin; refine wpList_append_rowS _ rfl _ _ 24 rfl w.heap.size 26 q0 _ 4 40 Try.underlying24 hq0 hy0 hy1 hy2 rfl (by decide) (.slice (some ⟨b3, 0, none⟩) i c3) i (rowES f i) rfl ((ownsRow_below HO3.out (show Below w3.heap.size w3 _ from by repeat' (first | (with_reducible exact Below.refl _ _) | (with_reducible assumption) | (with_reducible refine Below.alloc ?_ ?_ _) | (with_reducible refine Below.drew ?_) | (with_reducible refine Below.setCell ?_ ?_ _) | (with_reducible refine Below.stepB (by assumption) ?_ ?_) | go_size)))) (by simp) _ 0 1 1 (fun _ j => ((⟨2, 0, 100, [116, 105, 100, 101], by decide⟩ : ES)).cell j) rfl ?_ (fun _ j => es_one (fun _ => (⟨2, 0, 100, [116, 105, 100, 101], by decide⟩ : ES)) 0 j) (by omega) (by decide) ?_ ?_; go_must (focus exact es_box (blk_newC _ (by simp))); go_must (focus (first | omega | (simp; omega) | (simp; done))); intro b9 c9 w9 hO9 hc9 hb9 hbw9; have hz9 := hbw9.size; (try simp at hz9))
            rw [rowES_snoc] at hO9
            go_roundw
            case rel =>
              exact ⟨i + 1, b9, c9, _, by go_num, rfl, by omega, hc9, hO9, (HC3.out.belowB (B := w.heap.size) (by repeat' (first | (with_reducible exact Below.refl _ _) | (with_reducible assumption) | (with_reducible refine Below.alloc ?_ ?_ _) | (with_reducible refine Below.drew ?_) | (with_reducible refine Below.setCell ?_ ?_ _) | (with_reducible refine Below.stepB (by assumption) ?_ ?_) | go_size)) hbl).more (by omega), HK3.out.onB (by repeat' (first | (with_reducible exact Below.refl _ _) | (with_reducible assumption) | (with_reducible refine Below.alloc ?_ ?_ _) | (with_reducible refine Below.drew ?_) | (with_reducible refine Below.setCell ?_ ?_ _) | (with_reducible refine Below.stepB (by assumption) ?_ ?_) | go_size)), by omega⟩
            case measure => simp [lenW]; omega
          · go_wp2
            go_ret2
            exact ⟨_, i, b3, c3, f, rfl, by omega, hic, own_steps HO3.out, HC3.out.more (by omega), HK3.out⟩
      have e2 : (u == 2) = false := beq_eq_false_iff_ne.2 u2
      clear u0 u1 u2
      go_wp2
      go_ret2
      exact ⟨marks, m, b3, c3, f, rfl, by omega, hmc, own_steps HO2.out, HC2.out.more (by omega), HK2.out⟩
    · have hqz : (0 : Int) < (q : Int) := by omega
      have HCN := Lib.hid (fun (W : World) (hb : Below wr.heap.size wr W) (i j : Nat) (hi : i < m) (hj : j < 4) => show W.cell? ⟨b3, 0 + i * 4 + j, none⟩ = some ((f i).cell j) from by
        obtain ⟨b1, o1, e1, _, hc⟩ := (Sl.below (own_steps hO.out).sl hb) (by omega)
        obtain ⟨rfl, rfl⟩ : b3 = b1 ∧ 0 = o1 := by simpa using e1
        exact hc i j hi hj)
      go_wp2_with (at_builtin; refine wpList_append_rowS _ rfl _ _ 24 rfl wr.heap.size 26 q0 _ 4 40 Try.underlying24 hq0 hy0 hy1 hy2 rfl (by decide) (.slice (some ⟨wr.heap.size, 0, none⟩) 0 0) 0 [] rfl (ownsRow_blk0 (blk_newC _ rfl) (Nat.le_refl _)) (by simp) b3 0 m c3 (fun q j => (f q).cell j) rfl ?_ (fun q j => es_one f q j) (by omega) (by decide) ?_ ?_; go_must (focus exact HCN.out _ (by repeat' (first | (with_reducible exact Below.refl _ _) | (with_reducible assumption) | (with_reducible refine Below.alloc ?_ ?_ _) | (with_reducible refine Below.drew ?_) | (with_reducible refine Below.setCell ?_ ?_ _) | (with_reducible refine Below.stepB (by assumption) ?_ ?_) | go_size))); go_must (focus (first | omega | (simp; omega) | (simp; done))); intro b4 c4 w4 hO4 hc4 hb4 hbw4; have hz4 := hbw4.size; (try simp at hz4); rw [Nat.zero_add, List.nil_append] at hO4; have HO4 := Lib.hid (show w4.ownsRow wr.heap.size 26 4 (.slice (some ⟨b4, 0, none⟩) m c4) m (rowES f m) from hO4); clear hO4)
      refine (HST.out (K + 4 + 14 * (14 - q)) marks _ (by omega) (hC.out.belowB (B := wr.heap.size) (by repeat' (first | (with_reducible exact Below.refl _ _) | (with_reducible assumption) | (with_reducible refine Below.alloc ?_ ?_ _) | (with_reducible refine Below.drew ?_) | (with_reducible refine Below.setCell ?_ ?_ _) | (with_reducible refine Below.stepB (by assumption) ?_ ?_) | go_size)) (by omega))).mono ?_
      rintro e w5 ⟨s, rfl, hD⟩
      have HO5 := Lib.hid (ownsRow_keptC HO4.out hD.2 (by omega))
      have HKr := Lib.hid (((Kept.refl wr (some ⟨b, 0, none⟩) 1).onB (show Below wr.heap.size wr _ from by repeat' (first | (with_reducible exact Below.refl _ _) | (with_reducible assumption) | (with_reducible refine Below.alloc ?_ ?_ _) | (with_reducible refine Below.drew ?_) | (with_reducible refine Below.setCell ?_ ?_ _) | (with_reducible refine Below.stepB (by assumption) ?_ ?_) | go_size))).trans1 hD.2)
      have HC5 := Lib.hid hD.1
      have hz5 := hD.2.size
      clear hD HO4 hbw4
      go_wp2_with (at_builtin; refine wpList_append_rowS _ rfl _ _ 24 rfl wr.heap.size 26 q0 _ 4 40 Try.underlying24 hq0 hy0 hy1 hy2 rfl (by decide) (.slice (some ⟨b4, 0, none⟩) m c4) m (rowES f m) rfl ((ownsRow_below HO5.out (show Below w5.heap.size w5 _ from by repeat' (first | (with_reducible exact Below.refl _ _) | (with_reducible assumption) | (with_reducible refine Below.alloc ?_ ?_ _) | (with_reducible refine Below.drew ?_) | (with_reducible refine Below.setCell ?_ ?_ _) | (with_reducible refine Below.stepB (by assumption) ?_ ?_) | go_size)))) (by simp) _ 0 1 1 (fun _ j => (s).cell j) rfl ?_ (fun _ j => es_one (fun _ => s) 0 j) (by omega) (by decide) ?_ ?_; go_must (focus exact es_box (blk_newC _ (by simp))); go_must (focus (first | omega | (simp; omega) | (simp; done))); intro b9 c9 w9 hO9 hc9 hb9 hbw9; have hz9 := hbw9.size; (try simp at hz9))
      rw [rowES_snoc] at hO9
      have HO9 := Lib.hid hO9
      have HK9 := Lib.hid (HKr.out.onB (show Below wr.heap.size w5 w9 from by repeat' (first | (with_reducible exact Below.refl _ _) | (with_reducible assumption) | (with_reducible refine Below.alloc ?_ ?_ _) | (with_reducible refine Below.drew ?_) | (with_reducible refine Below.setCell ?_ ?_ _) | (with_reducible refine Below.stepB (by assumption) ?_ ?_) | go_size)))
      have HC9 := Lib.hid (HC5.out.belowB (B := wr.heap.size) (show Below wr.heap.size w5 w9 from by repeat' (first | (with_reducible exact Below.refl _ _) | (with_reducible assumption) | (with_reducible refine Below.alloc ?_ ?_ _) | (with_reducible refine Below.drew ?_) | (with_reducible refine Below.setCell ?_ ?_ _) | (with_reducible refine Below.stepB (by assumption) ?_ ?_) | go_size)) (by omega))
      have HG := Lib.hid (l14Good_any marks b9 0 (m + 1) c9 (putE f m s) w9 (own_steps HO9.out).sl hc9 (by omega))
      clear hO9 hbw9 HO5 HKr HC5 HCN
      generalize goodEd marks (putE f m s) (m + 1) = g at HG
      refine HG.out.mono ?_
      rintro e w6 ⟨rfl, hbw6⟩
      have hz6 := hbw6.size
      have HO6 := Lib.hid (ownsRow_low (ownsRow_below HO9.out hbw6) (show w.heap.size ≤ wr.heap.size by omega))
      have HK6 := Lib.hid (HK9.out.laterB hbw6)
      have HC6 := Lib.hid (HC9.out.below hbw6)
      clear HO9 HK9 HC9 HG hbw6
      cases g
      · go_wp2_with fail
        refine (HON.out (K + 4 + 14 * (14 - q) + 12) 40 _ (by omega) HC6.out (by decide)).mono ?_
        rintro e w7 ⟨o, rfl, hD⟩
        have hz7 := hD.2.size
        have HN7 := Lib.hid (ownsRow_keptC HO6.out hD.2 hbl)
        have HK7 := Lib.hid (HK6.out.trans1 hD.2)
        have HC7 := Lib.hid hD.1
        have HP7 := Lib.hid (ownsRow_keptC hO.out HK7.out hbl)
        clear hD HO6 HK6 HC6
        cases o
        · go_wp2
          go_roundw
          case rel => exact ⟨q - 1, m, b3, c3, f, by go_num, rfl, by omega, hmc, HP7.out, HC7.out.more (by omega), hKp.out.trans1 HK7.out, by omega⟩
          case measure => simp [intOf]; omega
        · go_wp2
          go_roundw
          case rel => exact ⟨q - 1, m + 1, b9, c9, _, by go_num, rfl, by omega, hc9, HN7.out, HC7.out.more (by omega), hKp.out.trans1 HK7.out, by omega⟩
          case measure => simp [intOf]; omega
      · go_wp2
        go_roundw
        case rel => exact ⟨q - 1, m + 1, b9, c9, _, by go_num, rfl, by omega, hc9, HO6.out, HC6.out.more (by omega), hKp.out.trans1 HK6.out, by omega⟩
        case measure => simp [intOf]; omega
end Go.Proofs.Ytbgpmbaonjehbaa
