/- Contracts: the reference's shift of a sounding, whether it is accepted, and whether steps are an edit list. -/
import Derived.Test.YtbgpmbaonjehbaaEdC
namespace Go.Proofs.Ytbgpmbaonjehbaa
open Go.RowKit
theorem take_snoc {L : List Nat} {k : Nat} (h : k < L.length) : L.take (k + 1) = L.take k ++ [L.getD k 0] := by
  rw [List.take_succ_eq_append_getElem h]
  simp [List.getD, h]
theorem shift_bnd {f : Nat → ES} {L : List Nat} {mark : Int} (h : ∀ i, i ∈ L → -100 ≤ (f i).by_ ∧ (f i).by_ ≤ 100) : ∀ p : Nat, -(100 * (p : Int)) ≤ shiftV f (L.take p) mark ∧ shiftV f (L.take p) mark ≤ 100 * p
  | 0 => by simp [shiftV]
  | p + 1 => by
    have ih := shift_bnd (mark := mark) h p
    rcases Nat.lt_or_ge p L.length with h1 | h1
    · rw [take_snoc h1, shiftV_snoc]
      have := h _ (cln_get h1)
      unfold shStep
      split <;> omega
    · rw [List.take_of_length_le (by omega)]
      rw [List.take_of_length_le (by omega)] at ih
      omega
theorem OwnI.at {w wr : World} {lo b n k : Nat} {L : Nat → Int} (hS : OwnI w lo (some ⟨b, 0, none⟩) n L) (hb : Below w.heap.size w wr) (hk : k < n) : b < w.heap.size ∧ b < wr.heap.size ∧ wr.cell? ⟨b, k, none⟩ = some (.int .i64 (L k)) := by
  obtain ⟨b', off, e, h1, h2, h3⟩ := SlI.at hS.sl hb hk
  obtain ⟨rfl, rfl⟩ : b = b' ∧ 0 = off := by simpa using e
  rw [Nat.zero_add] at h3
  exact ⟨h1, h2, h3⟩
set_option maxRecDepth 100000 in
set_option maxHeartbeats 1000000 in
theorem l14Shift_any (A : Option Addr) (n c : Nat) (f : Nat → ES) (mark : Int) (w : World) (hS : SlES w A n f) (hn : n ≤ 20) (hy : ∀ i, i < n → -100 ≤ (f i).by_ ∧ (f i).by_ ≤ 100) : Calls Try.prog 41 #[.slice A n c, .int .i64 mark] w
    fun e w' => e = .returned (.int .i64 (shiftV f (liveN f n) mark)) ∧ Below w.heap.size w w' := by
  have HL := Lib.hid (fun W (hb : Below w.heap.size w W) => l14Live_any A n c f W (hS.below hb) (by omega))
  have HS := Lib.hid hS
  have HY : Hid (∀ i, i ∈ liveN f n → i < n ∧ -100 ≤ (f i).by_ ∧ (f i).by_ ≤ 100) := fun i hi => ⟨(liveN_mem hi).1, hy i (liveN_mem hi).1⟩
  have hll := liveN_len f n
  clear hS hy
  obtain ⟨L, hL⟩ : ∃ L, L = liveN f n := ⟨_, rfl⟩
  obtain ⟨m, hm⟩ : ∃ m, m = L.length := ⟨_, rfl⟩
  rw [← hL] at HL HY hll ⊢
  rw [← hm] at hll
  have HM : Hid (∀ i, i < m → L.getD i 0 < n ∧ shiftV f (L.take (i + 1)) mark = shStep f mark (shiftV f (L.take i) mark) (L.getD i 0) ∧ -100 ≤ (f (L.getD i 0)).by_ ∧ (f (L.getD i 0)).by_ ≤ 100) := fun i hi => by
    have h1 := HY.out _ (cln_get (show i < L.length by omega))
    exact ⟨h1.1, by rw [take_snoc (by omega), shiftV_snoc], h1.2⟩
  have HB : Hid (∀ p : Nat, -(100 * (p : Int)) ≤ shiftV f (L.take p) mark ∧ shiftV f (L.take p) mark ≤ 100 * p) := shift_bnd (fun i hi => (HY.out i hi).2)
  have HN := Lib.hid hm
  clear hL hm HY
  go_enter Try.func41, Try.ntmps41
  go_wp2_with fail
  refine (HL.out _ (Below.refl _ _)).mono ?_
  rintro e w2 ⟨b2, c2, rfl, hO2, hc2, hb2⟩
  have HO2 : Hid (OwnI w2 w.heap.size (some ⟨b2, 0, none⟩) m (natV L)) := by
    show OwnI _ _ _ _ _
    rw [HN.out]
    exact own_nat rfl hO2
  rw [← HN.out] at hc2 ⊢
  have HB2 := Lib.hid hb2
  have hz2 := hb2.size
  clear hO2 hb2
  go_wp2
  go_loopw [5, 7] (fun v5 v7 wr => ∃ i : Nat, i ≤ m ∧ v7 = .int .i64 i ∧ v5 = .int .i64 (shiftV f (L.take i) mark) ∧ Below w2.heap.size w2 wr) (fun _ v7 _ => m - (intOf v7).toNat)
  case atStart => exact ⟨0, Nat.zero_le _, rfl, rfl, Below.refl _ _⟩
  case round =>
    obtain ⟨i, hi, rfl, rfl, hbr⟩ := hrel
    have hzr := hbr.size
    by_cases hlt : i < m
    · obtain ⟨hb5, hb6, d0⟩ := OwnI.at HO2.out hbr hlt
      have hj : natV L i = ((L.getD i 0 : Nat) : Int) := rfl
      rw [hj] at d0
      have HJ := Lib.hid (HM.out i hlt)
      have hjn := (HM.out i hlt).1
      generalize L.getD i 0 = j at d0 HJ hjn
      clear hj
      obtain ⟨b, off, rfl, hbl, hbl2, c0, c1, c2, c3⟩ := HS.out.at (HB2.out.trans (hbr.mono hz2)) hjn
      have hs : -3000 ≤ shiftV f (L.take i) mark ∧ shiftV f (L.take i) mark ≤ 3000 := by have := HB.out i; omega
      obtain ⟨hs1, hs2⟩ := hs
      obtain ⟨-, HE, y0, y1⟩ := HJ.out
      have HE := Lib.hid HE
      clear HJ
      generalize shiftV f (L.take i) mark = s at hs1 hs2 HE ⊢
      by_cases hc : (f j).mark = mark
      · by_cases hk : (f j).kind = 2
        · have g1 : ((f j).mark == mark) = true := beq_iff_eq.2 hc
          have g2 : ((f j).kind == 2) = true := beq_iff_eq.2 hk
          have HV : Hid (shiftV f (L.take (i + 1)) mark = s + (f j).by_) := by show _ = _; rw [HE.out, shStep, if_pos ⟨hc, hk⟩]
          clear hc hk HE
          go_wp2
          go_roundw
          case rel => exact ⟨i + 1, by omega, by go_num, by rw [HV.out], by repeat' (first | (with_reducible exact Below.refl _ _) | (with_reducible assumption) | (with_reducible refine Below.alloc ?_ ?_ _) | (with_reducible refine Below.drew ?_) | (with_reducible refine Below.setCell ?_ ?_ _) | (with_reducible refine Below.stepB (by assumption) ?_ ?_) | go_size)⟩
          case measure => simp [intOf]; omega
        · have g1 : ((f j).mark == mark) = true := beq_iff_eq.2 hc
          have g2 : ((f j).kind == 2) = false := beq_eq_false_iff_ne.2 hk
          have HV : Hid (shiftV f (L.take (i + 1)) mark = s) := by show _ = _; rw [HE.out, shStep, if_neg (fun h => hk h.2)]
          clear hc hk HE
          go_wp2
          go_roundw
          case rel => exact ⟨i + 1, by omega, by go_num, by rw [HV.out], by repeat' (first | (with_reducible exact Below.refl _ _) | (with_reducible assumption) | (with_reducible refine Below.alloc ?_ ?_ _) | (with_reducible refine Below.drew ?_) | (with_reducible refine Below.setCell ?_ ?_ _) | (with_reducible refine Below.stepB (by assumption) ?_ ?_) | go_size)⟩
          case measure => simp [intOf]; omega
      · have g1 : ((f j).mark == mark) = false := beq_eq_false_iff_ne.2 hc
        have HV : Hid (shiftV f (L.take (i + 1)) mark = s) := by show _ = _; rw [HE.out, shStep, if_neg (fun h => hc h.1)]
        clear hc HE
        go_wp2
        go_roundw
        case rel => exact ⟨i + 1, by omega, by go_num, by rw [HV.out], by repeat' (first | (with_reducible exact Below.refl _ _) | (with_reducible assumption) | (with_reducible refine Below.alloc ?_ ?_ _) | (with_reducible refine Below.drew ?_) | (with_reducible refine Below.setCell ?_ ?_ _) | (with_reducible refine Below.stepB (by assumption) ?_ ?_) | go_size)⟩
        case measure => simp [intOf]; omega
    · obtain rfl : i = m := by omega
      go_wp2
      go_ret
      have hBB := HB2.out.trans (hbr.mono hz2)
      exact ⟨ret_int (by rw [HN.out, List.take_length]), hBB⟩
set_option maxRecDepth 100000 in
set_option maxHeartbeats 1000000 in
theorem l14Accepted_any (A : Option Addr) (n c : Nat) (f : Nat → ES) (mark : Int) (w : World) (hS : SlES w A n f) (hn : n ≤ 20) : Calls Try.prog 40 #[.slice A n c, .int .i64 mark] w
    fun e w' => e = .returned (.bool (accV f (liveN f n) mark)) ∧ Below w.heap.size w w' := by
  have HL := Lib.hid (fun W (hb : Below w.heap.size w W) => l14Live_any A n c f W (hS.below hb) (by omega))
  have HS := Lib.hid hS
  have HY : Hid (∀ i, i ∈ liveN f n → i < n) := fun i hi => (liveN_mem hi).1
  have hll := liveN_len f n
  clear hS
  obtain ⟨L, hL⟩ : ∃ L, L = liveN f n := ⟨_, rfl⟩
  obtain ⟨m, hm⟩ : ∃ m, m = L.length := ⟨_, rfl⟩
  rw [← hL] at HL HY hll ⊢
  rw [← hm] at hll
  have HM : Hid (∀ i, i < m → L.getD i 0 < n ∧ accV f (L.take (i + 1)) mark = acStep f mark (accV f (L.take i) mark) (L.getD i 0)) := fun i hi => ⟨HY.out _ (cln_get (show i < L.length by omega)), by rw [take_snoc (by omega), accV_snoc]⟩
  have HN := Lib.hid hm
  clear hL hm HY
  go_enter Try.func40, Try.ntmps40
  go_wp2_with fail
  refine (HL.out _ (Below.refl _ _)).mono ?_
  rintro e w2 ⟨b2, c2, rfl, hO2, hc2, hb2⟩
  have HO2 : Hid (OwnI w2 w.heap.size (some ⟨b2, 0, none⟩) m (natV L)) := by
    show OwnI _ _ _ _ _
    rw [HN.out]
    exact own_nat rfl hO2
  rw [← HN.out] at hc2 ⊢
  have HB2 := Lib.hid hb2
  have hz2 := hb2.size
  clear hO2 hb2
  go_wp2
  go_loopw [5, 7] (fun v5 v7 wr => ∃ i : Nat, i ≤ m ∧ v7 = .int .i64 i ∧ v5 = .bool (accV f (L.take i) mark) ∧ Below w2.heap.size w2 wr) (fun _ v7 _ => m - (intOf v7).toNat)
  case atStart => exact ⟨0, Nat.zero_le _, rfl, rfl, Below.refl _ _⟩
  case round =>
    obtain ⟨i, hi, rfl, rfl, hbr⟩ := hrel
    have hzr := hbr.size
    by_cases hlt : i < m
    · obtain ⟨hb5, hb6, d0⟩ := OwnI.at HO2.out hbr hlt
      have hj : natV L i = ((L.getD i 0 : Nat) : Int) := rfl
      rw [hj] at d0
      have HJ := Lib.hid (HM.out i hlt)
      have hjn := (HM.out i hlt).1
      generalize L.getD i 0 = j at d0 HJ hjn
      clear hj
      obtain ⟨b, off, rfl, hbl, hbl2, c0, c1, c2, c3⟩ := HS.out.at (HB2.out.trans (hbr.mono hz2)) hjn
      have HE := Lib.hid HJ.out.2
      clear HJ
      generalize accV f (L.take i) mark = s at HE ⊢
      by_cases hc : (f j).mark = mark
      · by_cases hk : (f j).kind = 2
        · have g1 : ((f j).mark == mark) = true := beq_iff_eq.2 hc
          have g2 : ((f j).kind != 2) = false := by simpa using hk
          have HV : Hid (accV f (L.take (i + 1)) mark = s) := by show _ = _; rw [HE.out, acStep, if_neg (fun h => h.2 hk)]
          clear hc hk HE
          go_wp2
          go_roundw
          case rel => exact ⟨i + 1, by omega, by go_num, by rw [HV.out], by repeat' (first | (with_reducible exact Below.refl _ _) | (with_reducible assumption) | (with_reducible refine Below.alloc ?_ ?_ _) | (with_reducible refine Below.drew ?_) | (with_reducible refine Below.setCell ?_ ?_ _) | (with_reducible refine Below.stepB (by assumption) ?_ ?_) | go_size)⟩
          case measure => simp [intOf]; omega
        · have g1 : ((f j).mark == mark) = true := beq_iff_eq.2 hc
          have g2 : ((f j).kind != 2) = true := by simpa using hk
          have HV : Hid (accV f (L.take (i + 1)) mark = ((f j).kind == 1)) := by show _ = _; rw [HE.out, acStep, if_pos ⟨hc, hk⟩]; rfl
          clear hc hk HE
          go_wp2
          go_roundw
          case rel => exact ⟨i + 1, by omega, by go_num, by rw [HV.out], by repeat' (first | (with_reducible exact Below.refl _ _) | (with_reducible assumption) | (with_reducible refine Below.alloc ?_ ?_ _) | (with_reducible refine Below.drew ?_) | (with_reducible refine Below.setCell ?_ ?_ _) | (with_reducible refine Below.stepB (by assumption) ?_ ?_) | go_size)⟩
          case measure => simp [intOf]; omega
      · have g1 : ((f j).mark == mark) = false := beq_eq_false_iff_ne.2 hc
        have HV : Hid (accV f (L.take (i + 1)) mark = s) := by show _ = _; rw [HE.out, acStep, if_neg (fun h => hc h.1)]
        clear hc HE
        go_wp2
        go_roundw
        case rel => exact ⟨i + 1, by omega, by go_num, by rw [HV.out], by repeat' (first | (with_reducible exact Below.refl _ _) | (with_reducible assumption) | (with_reducible refine Below.alloc ?_ ?_ _) | (with_reducible refine Below.drew ?_) | (with_reducible refine Below.setCell ?_ ?_ _) | (with_reducible refine Below.stepB (by assumption) ?_ ?_) | go_size)⟩
        case measure => simp [intOf]; omega
    · obtain rfl : i = m := by omega
      go_wp2
      go_ret
      have hBB := HB2.out.trans (hbr.mono hz2)
      exact ⟨ret_bool (by rw [HN.out, List.take_length]), hBB⟩
end Go.Proofs.Ytbgpmbaonjehbaa
