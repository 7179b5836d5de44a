/- Contracts: the draws of a spot near a mesh and of depths. -/
import Derived.Test.YtfflbkmncnaffaaCurM
import Derived.Test.YtfflbkmncnaffaaRowS
import Derived.Test.YtfflbkmncnaffaaIntsC
namespace Go.Proofs.Ytfflbkmncnaffaa
open Go.RowKit
set_option maxHeartbeats 2000000 in
theorem near15_any (b : Nat) (A : Option Addr) (n c K : Nat) (w : World) (h : CurS w b A n c K) (hK : K ≤ 999800) (hn : n ≤ 9223372036854775807) :
    Calls Try.prog 72 #[.pointer (some ⟨b, 0, none⟩)] w fun e w' => ∃ x y : Int, e = .returned (.agg #[.int .i64 x, .int .i64 y]) ∧ Drew w b A n c (K + 10) w' := by
  have HAM := Lib.hid (fun K' g m c2 ls W (hK : K' ≤ 999990) (hC : CurS W b A n c K') hB hg hm0 hm hl => among_any b A n c K' g m c2 ls W hC hK hn hB hg hm0 hm hl)
  have HON := Lib.hid (fun K' (m : Int) W (hK : K' ≤ 999990) (hC : CurS W b A n c K') (hm : m ≤ 100000) => one_any b A n c K' m W hC hK hn hm)
  have HSP := Lib.hid (fun K' W (hK : K' ≤ 999900) (hC : CurS W b A n c K') => spot_any b A n c K' W hC hK hn)
  have HC := Lib.hid h
  have hbl := h.lt
  clear h
  have HK0 := Lib.hid (Kept.refl w (some ⟨b, 0, none⟩) 1)
  go_enter Try.func72, Try.ntmps72
  go_wp2_with fail
  refine (HON.out K 16 _ (by omega) (HC.out.below (by repeat' (first | (with_reducible exact Below.refl _ _) | (with_reducible assumption) | (with_reducible refine Below.alloc ?_ ?_ _) | (with_reducible refine Below.drew ?_) | (with_reducible refine Below.setCell ?_ ?_ _) | (with_reducible refine Below.stepB (by assumption) ?_ ?_) | go_size))) (by decide)).mono ?_
  rintro e w1 ⟨q, rfl, hD⟩
  have HT1 := Lib.hid (Blk.keptC (blk_newC (g := w.heap.size) (t := 26) (cs := #[.int .i64 0, .int .i64 0]) w rfl) hD.2 (by omega))
  have HK1 := Lib.hid ((HK0.out.laterB (show Below w.heap.size w _ from by repeat' (first | (with_reducible exact Below.refl _ _) | (with_reducible assumption) | (with_reducible refine Below.alloc ?_ ?_ _) | (with_reducible refine Below.drew ?_) | (with_reducible refine Below.setCell ?_ ?_ _) | (with_reducible refine Below.stepB (by assumption) ?_ ?_) | go_size))).trans1 hD.2)
  have HC1 := Lib.hid hD.1
  have hz1 := hD.2.size
  (try simp at hz1)
  clear hD
  cases q
  · go_wp2_with fail
    refine (HAM.out (K + 2) w1.heap.size 7 7 [0, 10, 25, 50, 60, 100, 120] _ (by omega) (HC1.out.below (by repeat' (first | (with_reducible exact Below.refl _ _) | (with_reducible assumption) | (with_reducible refine Below.alloc ?_ ?_ _) | (with_reducible refine Below.drew ?_) | (with_reducible refine Below.setCell ?_ ?_ _) | (with_reducible refine Below.stepB (by assumption) ?_ ?_) | go_size))) ?_ (by omega) (by decide) (by decide) (by decide)).mono ?_
    · exact blk_newC _ (by simp)
    rintro e w2 ⟨x, rfl, hD⟩
    have HT2 := Lib.hid (Blk.keptC (HT1.out.alloc _) hD.2 (by omega))
    have HK2 := Lib.hid ((HK1.out.laterB (show Below w1.heap.size w1 _ from by repeat' (first | (with_reducible exact Below.refl _ _) | (with_reducible assumption) | (with_reducible refine Below.alloc ?_ ?_ _) | (with_reducible refine Below.drew ?_) | (with_reducible refine Below.setCell ?_ ?_ _) | (with_reducible refine Below.stepB (by assumption) ?_ ?_) | go_size))).trans1 hD.2)
    have HC2 := Lib.hid hD.1
    have hz2 := hD.2.size
    (try simp at hz2)
    clear hD
    go_wp2_with fail
    refine (HAM.out (K + 4) w2.heap.size 6 6 [0, 5, 30, 50, 70, 100] _ (by omega) (HC2.out.below (by repeat' (first | (with_reducible exact Below.refl _ _) | (with_reducible assumption) | (with_reducible refine Below.alloc ?_ ?_ _) | (with_reducible refine Below.drew ?_) | (with_reducible refine Below.setCell ?_ ?_ _) | (with_reducible refine Below.stepB (by assumption) ?_ ?_) | go_size))) ?_ (by omega) (by decide) (by decide) (by decide)).mono ?_
    · exact blk_newC _ (by simp)
    rintro e w3 ⟨y, rfl, hD⟩
    have HT3 := Lib.hid (Blk.keptC (HT2.out.alloc _) hD.2 (by omega))
    have HK3 := Lib.hid ((HK2.out.laterB (show Below w2.heap.size w2 _ from by repeat' (first | (with_reducible exact Below.refl _ _) | (with_reducible assumption) | (with_reducible refine Below.alloc ?_ ?_ _) | (with_reducible refine Below.drew ?_) | (with_reducible refine Below.setCell ?_ ?_ _) | (with_reducible refine Below.stepB (by assumption) ?_ ?_) | go_size))).trans1 hD.2)
    have HC3 := Lib.hid hD.1
    have hz3 := hD.2.size
    (try simp at hz3)
    clear hD
    have e0 : ∀ v0 : Value, (w3.setCell ⟨w.heap.size, 0, none⟩ v0).cell? ⟨w.heap.size, 0, none⟩ = some v0 := fun v0 => (HT3.out.set_ 0 v0).cell 0
    have e1 : ∀ v0 v1 : Value, ((w3.setCell ⟨w.heap.size, 0, none⟩ v0).setCell ⟨w.heap.size, 1, none⟩ v1).cell? ⟨w.heap.size, 1, none⟩ = some v1 := fun v0 v1 => ((HT3.out.set_ 0 v0).set_ 1 v1).cell 1
    have t0 : w3.cell? ⟨w.heap.size, 0, none⟩ = some (.int .i64 0) := HT3.out.cell 0
    have t1 : w3.cell? ⟨w.heap.size, 1, none⟩ = some (.int .i64 0) := HT3.out.cell 1
    have tf := HT3.out.frozen
    have tl := HT3.out.lt
    go_wp2
    (try simp only [Exit.inBlock, Exit.then])
    refine bodyPost_ret (by simp [results, Try.results72, go_sem, e0, e1]; try rfl) rfl ?_
    refine ⟨_, _, rfl, (HC3.out.belowB (B := w.heap.size) ?_ hbl).more (by omega), HK3.out.onB ?_⟩ <;> repeat' (first | (with_reducible exact Below.refl _ _) | (with_reducible assumption) | (with_reducible refine Below.alloc ?_ ?_ _) | (with_reducible refine Below.drew ?_) | (with_reducible refine Below.setCell ?_ ?_ _) | (with_reducible refine Below.stepB (by assumption) ?_ ?_) | go_size)
  · go_wp2_with fail
    refine (HSP.out (K + 2) _ (by omega) HC1.out).mono ?_
    rintro e w2 ⟨x, y, rfl, hD⟩
    have HT2 := Lib.hid (Blk.keptC HT1.out hD.2 (by omega))
    have HK2 := Lib.hid (HK1.out.trans1 hD.2)
    have HC2 := Lib.hid hD.1
    have hz2 := hD.2.size
    clear hD
    have e0 : ∀ v0 : Value, (w2.setCell ⟨w.heap.size, 0, none⟩ v0).cell? ⟨w.heap.size, 0, none⟩ = some v0 := fun v0 => (HT2.out.set_ 0 v0).cell 0
    have e1 : ∀ v0 v1 : Value, ((w2.setCell ⟨w.heap.size, 0, none⟩ v0).setCell ⟨w.heap.size, 1, none⟩ v1).cell? ⟨w.heap.size, 1, none⟩ = some v1 := fun v0 v1 => ((HT2.out.set_ 0 v0).set_ 1 v1).cell 1
    have t0 : w2.cell? ⟨w.heap.size, 0, none⟩ = some (.int .i64 0) := HT2.out.cell 0
    have t1 : w2.cell? ⟨w.heap.size, 1, none⟩ = some (.int .i64 0) := HT2.out.cell 1
    have tf := HT2.out.frozen
    have tl := HT2.out.lt
    go_wp2
    (try simp only [Exit.inBlock, Exit.then])
    refine bodyPost_ret (by simp [results, Try.results72, go_sem, e0, e1]; try rfl) rfl ?_
    refine ⟨_, _, rfl, (HC2.out.belowB (B := w.heap.size) ?_ hbl).more (by omega), HK2.out.onB ?_⟩ <;> repeat' (first | (with_reducible exact Below.refl _ _) | (with_reducible assumption) | (with_reducible refine Below.alloc ?_ ?_ _) | (with_reducible refine Below.drew ?_) | (with_reducible refine Below.setCell ?_ ?_ _) | (with_reducible refine Below.stepB (by assumption) ?_ ?_) | go_size)
theorem owns_snocM {w : World} {base : Nat} {e : TypeId} {A : Option Addr} {c : Nat} {L : List Int} {z : Int} (h : w.ownsRow base e 1 (.slice A (L.length + 1) c) (L.length + 1) (L.map (Value.int .i64) ++ [.int .i64 z])) : w.ownsRow base e 1 (.slice A (L ++ [z]).length c) (L ++ [z]).length ((L ++ [z]).map (Value.int .i64)) := by simpa using h
theorem ownsRow_capM {w : World} {base : Nat} {e : TypeId} {k n c : Nat} {A : Option Addr} {xs : List Value} (h : w.ownsRow base e k (.slice A n c) n xs) : n ≤ c := by
  rcases h.2 with ⟨hv, h0⟩ | ⟨g, cap, cur, hv, hb, hh, hnc, _⟩
  · omega
  · injection hv with _ _ h3
    omega
theorem ownsRow_posM {w : World} {base : Nat} {e : TypeId} {k n : Nat} {v : Value} {xs : List Value} (h : w.ownsRow base e k v n xs) (hn : 0 < n) : ∃ b c, v = .slice (some ⟨b, 0, none⟩) n c := by
  rcases h.2 with ⟨hv, h0⟩ | ⟨g, cap, cur, hv, _⟩
  · omega
  · exact ⟨_, _, hv⟩
theorem intM_info : (Try.prog.info? 3).map (fun i => (i.zero, i.size, i.bytes)) = some (some (.int .i64 0), 1, 8) := by kernel_rfl
theorem first_set {w : World} {lo b n : Nat} {L : Nat → Int} {z : Int} (h : OwnI w lo (some ⟨b, 0, none⟩) n L) : OwnI (w.setCell ⟨b, 0, none⟩ (.int .i64 z)) lo (some ⟨b, 0, none⟩) n (fun i => if i = 0 then z else L i) := by
  refine Own.congr (Own.set0 (i := 0) (u := .int .i64 z) h (by decide)) (fun i j _ hj => ?_)
  obtain rfl : j = 0 := by omega
  by_cases h : i = 0 <;> simp [h]
set_option maxRecDepth 100000 in
set_option maxHeartbeats 2000000 in
theorem depths15_any (b : Nat) (A : Option Addr) (n c K : Nat) (A2 : Option Addr) (m c2 : Nat) (w : World) (h : CurS w b A n c K) (hK : K ≤ 999000) (hn : n ≤ 9223372036854775807) (hm : m ≤ 20) :
    Calls Try.prog 71 #[.pointer (some ⟨b, 0, none⟩), .slice A2 m c2] w fun e w' => ∃ (d b' c' : Nat) (L : Nat → Int), e = .returned (.slice (some ⟨b', 0, none⟩) d c') ∧ d ≤ 21 ∧ d ≤ c' ∧ OwnI w' w.heap.size (some ⟨b', 0, none⟩) d L ∧ Drew w b A n c (K + 50) w' := by
  have HAM := Lib.hid (fun K' g m c2 ls W (hK : K' ≤ 999990) (hC : CurS W b A n c K') hB hg hm0 hm hl => among_any b A n c K' g m c2 ls W hC hK hn hB hg hm0 hm hl)
  have HPK := Lib.hid (fun K' (m : Int) W (hK : K' ≤ 999990) (hC : CurS W b A n c K') (hm : m ≤ 100000) => pick_any b A n c K' m W hC hK hn hm)
  have HC := Lib.hid h
  have hbl := h.lt
  clear h
  have HK0 := Lib.hid (Kept.refl w (some ⟨b, 0, none⟩) 1)
  obtain ⟨i0, hi0, hz0, hz1, hz2⟩ := info_parts intM_info
  have hO0 := Lib.hid (ownsRow_empty w 3 1)
  go_enter Try.func71, Try.ntmps71
  go_wp2
  go_loopw [5, 6] (fun v5 v6 wr => ∃ (k : Nat) (Y : List Int) (b3 c3 : Nat), k ≤ m ∧ v6 = .int .i64 k ∧ v5 = .slice (some ⟨b3, 0, none⟩) Y.length c3 ∧ Y.length = k ∧ Hid (wr.ownsRow w.heap.size 3 1 (.slice (some ⟨b3, 0, none⟩) Y.length c3) Y.length (Y.map (Value.int .i64))) ∧ Hid (CurS wr b A n c (K + 2 * k)) ∧ Hid (Kept w wr (some ⟨b, 0, none⟩) 1) ∧ w.heap.size ≤ wr.heap.size) (fun _ v6 _ => m - (intOf v6).toNat)
  case atStart => exact ⟨0, [], _, _, Nat.zero_le _, rfl, rfl, rfl, hO0.out, (HC.out.below (by repeat' (first | (with_reducible exact Below.refl _ _) | (with_reducible assumption) | (with_reducible refine Below.alloc ?_ ?_ _) | (with_reducible refine Below.drew ?_) | (with_reducible refine Below.setCell ?_ ?_ _) | (with_reducible refine Below.stepB (by assumption) ?_ ?_) | go_size))).more (by omega), HK0.out.onB (by repeat' (first | (with_reducible exact Below.refl _ _) | (with_reducible assumption) | (with_reducible refine Below.alloc ?_ ?_ _) | (with_reducible refine Below.drew ?_) | (with_reducible refine Below.setCell ?_ ?_ _) | (with_reducible refine Below.stepB (by assumption) ?_ ?_) | go_size)), by simp⟩
  case round =>
    clear hO0
    obtain ⟨k, Y, b3, c3, hk, rfl, rfl, hYk, hO, hC, hKp, hzr⟩ := hrel
    have HYK := Lib.hid hYk
    have hYl : Y.length ≤ 20 := by omega
    clear hYk
    by_cases hlt : k < m
    · go_wp2_with fail
      refine (HAM.out (K + 2 * k) wr.heap.size 6 6 [300, 500, 800, 820, 1000, -50] _ (by omega) (hC.out.below (by repeat' (first | (with_reducible exact Below.refl _ _) | (with_reducible assumption) | (with_reducible refine Below.alloc ?_ ?_ _) | (with_reducible refine Below.drew ?_) | (with_reducible refine Below.setCell ?_ ?_ _) | (with_reducible refine Below.stepB (by assumption) ?_ ?_) | go_size))) (blk_newC _ (by simp)) (by omega) (by decide) (by decide) (by decide)).mono ?_
      rintro e w3 ⟨z, rfl, hD⟩
      have HO3 := Lib.hid (ownsRow_keptC (hO.out.alloc _) hD.2 hbl)
      have HK3 := Lib.hid ((hKp.out.onB (show Below w.heap.size wr _ from by repeat' (first | (with_reducible exact Below.refl _ _) | (with_reducible assumption) | (with_reducible refine Below.alloc ?_ ?_ _) | (with_reducible refine Below.drew ?_) | (with_reducible refine Below.setCell ?_ ?_ _) | (with_reducible refine Below.stepB (by assumption) ?_ ?_) | go_size))).trans1 hD.2)
      have HC3 := Lib.hid hD.1
      have hz3 := hD.2.size
      (try simp at hz3)
      clear hD
      go_wp2_with (at_builtin; refine wpList_append_int1 _ rfl _ _ 33 rfl w.heap.size 3 i0 Try.underlying33 hi0 hz0 hz1 hz2 _ _ _ rfl ((HO3.out.alloc _)) _ _ (z) rfl ?_ ?_ ?_ ?_; go_must (focus (simp; done)); go_must (focus omega); go_must (focus (first | omega | (simp; omega) | (simp; done))); intro v9 w4 hOw4 hbw4; have hzw4 := hbw4.size; (try simp at hzw4))
      obtain ⟨b4, c4, rfl⟩ := ownsRow_posM hOw4 (Nat.succ_pos _)
      go_roundw
      case rel => exact ⟨k + 1, Y ++ [z], b4, c4, by omega, by go_num, by simp, by rw [List.length_append, HYK.out, List.length_singleton], owns_snocM hOw4, (HC3.out.belowB (B := w.heap.size) (by repeat' (first | (with_reducible exact Below.refl _ _) | (with_reducible assumption) | (with_reducible refine Below.alloc ?_ ?_ _) | (with_reducible refine Below.drew ?_) | (with_reducible refine Below.setCell ?_ ?_ _) | (with_reducible refine Below.stepB (by assumption) ?_ ?_) | go_size)) hbl).more (by omega), HK3.out.onB (by repeat' (first | (with_reducible exact Below.refl _ _) | (with_reducible assumption) | (with_reducible refine Below.alloc ?_ ?_ _) | (with_reducible refine Below.drew ?_) | (with_reducible refine Below.setCell ?_ ?_ _) | (with_reducible refine Below.stepB (by assumption) ?_ ?_) | go_size)), by omega⟩
      case measure => simp [intOf]; omega
    · obtain rfl : k = m := by omega
      go_wp2_with fail
      refine (HPK.out (K + 2 * k) 24 _ (by omega) hC.out (by decide)).mono ?_
      rintro e w3 ⟨u, rfl, u0, u1, hD⟩
      have HO3 := Lib.hid (ownsRow_keptC hO.out hD.2 hbl)
      have HK3 := Lib.hid (hKp.out.trans1 hD.2)
      have HC3 := Lib.hid hD.1
      have hz3 := hD.2.size
      clear hD hO hC hKp
      by_cases h0 : u = 0
      · subst h0
        go_wp2_with (at_builtin; refine wpList_append_int1 _ rfl _ _ 33 rfl w.heap.size 3 i0 Try.underlying33 hi0 hz0 hz1 hz2 _ _ _ rfl ((HO3.out.alloc _)) _ _ (5) rfl ?_ ?_ ?_ ?_; go_must (focus (simp; done)); go_must (focus omega); go_must (focus (first | omega | (simp; omega) | (simp; done))); intro v9 w4 hOw4 hbw4; have hzw4 := hbw4.size; (try simp at hzw4))
        obtain ⟨b4, c4, rfl⟩ := ownsRow_posM hOw4 (Nat.succ_pos _)
        go_ret
        exact ⟨Y.length + 1, b4, c4, _, rfl, by omega, ownsRow_capM hOw4, ownI_of (L := Y ++ [5]) (by simp) (by simpa using hOw4), (HC3.out.belowB (B := w.heap.size) (by repeat' (first | (with_reducible exact Below.refl _ _) | (with_reducible assumption) | (with_reducible refine Below.alloc ?_ ?_ _) | (with_reducible refine Below.drew ?_) | (with_reducible refine Below.setCell ?_ ?_ _) | (with_reducible refine Below.stepB (by assumption) ?_ ?_) | go_size)) hbl).more (by omega), HK3.out.onB (by repeat' (first | (with_reducible exact Below.refl _ _) | (with_reducible assumption) | (with_reducible refine Below.alloc ?_ ?_ _) | (with_reducible refine Below.drew ?_) | (with_reducible refine Below.setCell ?_ ?_ _) | (with_reducible refine Below.stepB (by assumption) ?_ ?_) | go_size))⟩
      · have hu0 : (u == 0) = false := by simpa using h0
        by_cases h1 : u = 1
        · subst h1
          rcases Nat.eq_zero_or_pos Y.length with hy | hy
          · have hyb : decide ((Y.length : Int) > 0) = false := decide_eq_false (by omega)
            have hyc : ¬ (0 : Int) < (Y.length : Int) := by omega
            clear hy h0
            go_wp2
            go_ret
            exact ⟨Y.length, b3, c3, _, rfl, by omega, ownsRow_capM HO3.out, ownI_of rfl HO3.out, HC3.out.more (by omega), HK3.out⟩
          · have hyc : (0 : Int) < (Y.length : Int) := by omega
            clear h0
            go_wp2_with fail
            refine (HAM.out (K + 2 * k + 2) w3.heap.size 2 2 [-1001, 20001] _ (by omega) (HC3.out.below (by repeat' (first | (with_reducible exact Below.refl _ _) | (with_reducible assumption) | (with_reducible refine Below.alloc ?_ ?_ _) | (with_reducible refine Below.drew ?_) | (with_reducible refine Below.setCell ?_ ?_ _) | (with_reducible refine Below.stepB (by assumption) ?_ ?_) | go_size))) (blk_newC _ (by simp)) (by omega) (by decide) (by decide) (by decide)).mono ?_
            rintro e w4 ⟨z, rfl, hD⟩
            have HO4 := Lib.hid (ownI_of (L := Y) rfl (ownsRow_keptC (HO3.out.alloc _) hD.2 hbl))
            have hcap := ownsRow_capM HO3.out
            have HK4 := Lib.hid ((HK3.out.onB (show Below w.heap.size w3 _ from by repeat' (first | (with_reducible exact Below.refl _ _) | (with_reducible assumption) | (with_reducible refine Below.alloc ?_ ?_ _) | (with_reducible refine Below.drew ?_) | (with_reducible refine Below.setCell ?_ ?_ _) | (with_reducible refine Below.stepB (by assumption) ?_ ?_) | go_size))).trans1 hD.2)
            have HC4 := Lib.hid hD.1
            have hz4 := hD.2.size
            (try simp at hz4)
            clear hD
            have c0 := HO4.out.at_ (i := 0) (j := 0) hy (by decide)
            simp only [Nat.zero_mul, Nat.add_zero] at c0
            obtain ⟨hbl3, hfz⟩ := HO4.out.free hy
            have hlo : w.heap.size ≤ b3 := by
              obtain ⟨p, _, _, hA, hl, _⟩ := HO4.out hy
              obtain rfl : b3 = p := by simpa using hA
              exact hl
            go_wp2
            go_ret
            exact ⟨Y.length, b3, c3, fun i => if i = 0 then z else Y.getD i 0, rfl, by omega, hcap, first_set HO4.out, (HC4.out.belowB (B := w.heap.size) (by repeat' (first | (with_reducible exact Below.refl _ _) | (with_reducible assumption) | (with_reducible refine Below.alloc ?_ ?_ _) | (with_reducible refine Below.drew ?_) | (with_reducible refine Below.setCell ?_ ?_ _) | (with_reducible refine Below.stepB (by assumption) ?_ ?_) | go_size)) hbl).more (by omega), HK4.out.onB (by repeat' (first | (with_reducible exact Below.refl _ _) | (with_reducible assumption) | (with_reducible refine Below.alloc ?_ ?_ _) | (with_reducible refine Below.drew ?_) | (with_reducible refine Below.setCell ?_ ?_ _) | (with_reducible refine Below.stepB (by assumption) ?_ ?_) | go_size))⟩
        · have hu1 : (u == 1) = false := by simpa using h1
          clear h0 h1
          go_wp2
          go_ret
          exact ⟨Y.length, b3, c3, _, rfl, by omega, ownsRow_capM HO3.out, ownI_of rfl HO3.out, HC3.out.more (by omega), HK3.out⟩
end Go.Proofs.Ytfflbkmncnaffaa
