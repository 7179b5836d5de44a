/- Contract: the reference's places to anchor; the law on them, over the contracts. -/
import Derived.Test.YtfecepjdjikenaaAnchI
import Derived.Test.YtfecepjdjikenaaMark
namespace Go.Proofs.Ytfecepjdjikenaa
open Go.RowKit
theorem lev_anch (f : Nat → BS) (least : Int) (n : Nat) (hg : ∀ i, i < n → okS (f i) = true) (T : Nat) (hT : (T : Int) = 101 - least) : levN holdV f n T = anchS f least n := by
  unfold anchS
  rw [← srt_levN holdV noB f T n (fun i hi => hold_bd (hg i hi))]
  congr 1
  refine pick_congr n (fun i _ => ?_) (fun _ _ => rfl)
  rw [Bool.eq_iff_iff]
  simp only [Bool.not_eq_true', decide_eq_true_eq, decide_eq_false_iff_not]
  omega
theorem levN_len {α : Type} (h : α → Int) (f : Nat → α) (n : Nat) : ∀ t, (levN h f n t).length ≤ t * n
  | 0 => by simp [levN]
  | t + 1 => by
    rw [levN, List.length_append, Nat.add_mul, Nat.one_mul]
    have h1 := levN_len h f n t
    have h2 := pick_len (p := fun i => decide (h (f i) = 100 - t)) (h := f) n
    omega
set_option maxRecDepth 100000 in
set_option maxHeartbeats 2000000 in
theorem specAnchor_yes (A : Option Addr) (n c : Nat) (f : Nat → BS) (least : Int) (w : World) (hS : SlS w A n f) (hn : n ≤ 1048576) (h : anchOk f least n = true) :
    Calls Try.prog 34 #[.slice A n c, .int .i64 least] w fun e w' => IntsOut w ((anchS f least n).map BS.id) true e w' := by
  obtain ⟨⟨hg, h12⟩, hf⟩ : (goodUpto f n = true ∧ n ≤ 12) ∧ inB least 0 100 = true := by simpa [anchOk] using h
  have hok := Lib.hid (good_lt hg)
  obtain ⟨f1, f2⟩ := inB_iff.1 hf
  obtain ⟨T, hT⟩ : ∃ T : Nat, (T : Int) = 101 - least := ⟨(101 - least).toNat, by omega⟩
  have HF := Lib.hid (lev_anch f least n hok.out T hT)
  have hret : (goodUpto f n && decide (n ≤ 12)) = true := by simp [hg, h12]
  have hA := fun W (hb : Below w.heap.size w W) => l18Good_any A n c f W (hS.below hb) hn
  rw [hret] at hA
  have HA := Lib.hid hA
  have HH := Lib.hid (fun i (hi : i < n) W => l18Holding_any (f i) W (hok.out i hi))
  obtain ⟨i0, hi0, hz0, hz1, hz2⟩ := info_parts intA_info
  have HS := Lib.hid hS
  have hT1 : T ≤ 101 := by omega
  have HTL := Lib.hid hT
  clear hA hS hg hret h hT
  go_enter Try.func34, Try.ntmps34
  go_wp2_with fail
  refine (HA.out _ (by repeat' (first | (with_reducible exact Below.refl _ _) | (with_reducible assumption) | (with_reducible refine Below.alloc ?_ ?_ _) | (with_reducible refine Below.drew ?_) | (with_reducible refine Below.setCell ?_ ?_ _) | (with_reducible refine Below.stepB (by assumption) ?_ ?_) | go_size))).mono ?_
  rintro e w1 ⟨rfl, hbw1⟩
  obtain ⟨hzw1, hcw1, hfw1⟩ := bfacts hbw1; (try simp at hzw1 hcw1 hfw1); (try (have : w.heap.size < w1.heap.size := by omega)); (try (have : w.heap.size + 1 < w1.heap.size := by omega)); (try (have : w.heap.size + 1 + 1 < w1.heap.size := by omega)); (try (have : w.heap.size + 1 + 1 + 1 < w1.heap.size := by omega))
  go_wp2_with (go_at_call 67; refine (l18Share_any _ _).mono ?_; rintro e w' ⟨rfl, rfl⟩)
  have hO0 := Lib.hid (ownsRow_below (ownsRow_empty w 3 1) hbw1)
  go_loopw [6, 7] (fun v6 v7 wr => ∃ t : Nat, t ≤ T ∧ v7 = .int .i64 (100 - (t : Int)) ∧ Hid (wr.ownsRow w.heap.size 3 1 v6 ((levN holdV f n t).map BS.id).length (((levN holdV f n t).map BS.id).map (Value.int .i64))) ∧ Below w.heap.size w wr) (fun _ v7 _ => (1 + intOf v7).toNat)
  case atStart => exact ⟨0, Nat.zero_le _, rfl, hO0.out, by repeat' (first | (with_reducible exact Below.refl _ _) | (with_reducible assumption) | (with_reducible refine Below.alloc ?_ ?_ _) | (with_reducible refine Below.drew ?_) | (with_reducible refine Below.setCell ?_ ?_ _) | (with_reducible refine Below.stepB (by assumption) ?_ ?_) | go_size)⟩
  case round =>
    clear hO0
    obtain ⟨t, ht, rfl, hO, hbr⟩ := hrel
    have hzr := hbr.size
    obtain ⟨A6, c6, rfl⟩ := ownsRow_form hO.out
    have hTL := HTL.out
    by_cases hlt : t < T
    · have hge : least ≤ 100 - (t : Int) := by omega
      have HL : Hid ((levN holdV f n (t + 1)).map BS.id = (levN holdV f n t ++ pick (fun i => decide (holdV (f i) = 100 - t)) f n).map BS.id) := rfl
      have hle := levN_len holdV f n t
      have htn : t * n ≤ 101 * 12 := Nat.mul_le_mul (by omega) h12
      clear hTL
      generalize levN holdV f n t = Z at HL hO hle ⊢
      have hz12 : Z.length ≤ 1212 := by omega
      clear hle htn
      go_wp2
      go_loopw [6, 8] (fun v6 v8 wq => ∃ i : Nat, i ≤ n ∧ v8 = .int .i64 i ∧ Hid (wq.ownsRow w.heap.size 3 1 v6 ((Z ++ pick (fun i => decide (holdV (f i) = 100 - t)) f i).map BS.id).length (((Z ++ pick (fun i => decide (holdV (f i) = 100 - t)) f i).map BS.id).map (Value.int .i64))) ∧ Below w.heap.size w wq) (fun _ v8 _ => n - (intOf v8).toNat)
      case atStart => exact ⟨0, Nat.zero_le _, rfl, by rw [show pick (fun i => decide (holdV (f i) = 100 - (t : Int))) f 0 = [] from rfl, List.append_nil]; exact hO.out, hbr⟩
      case round =>
        rename World => wq
        clear hO
        obtain ⟨i, hi, rfl, hO, hbq⟩ := hrel
        have hzq := hbq.size
        obtain ⟨A6, c6, rfl⟩ := ownsRow_form hO.out
        by_cases hin : i < n
        · obtain ⟨b, off, rfl, hbl, hbl2, d0, d1, d2, d3, d4, d5, -⟩ := HS.out.at hbq hin
          have hpl := pick_len (p := fun i => decide (holdV (f i) = 100 - (t : Int))) (h := f) i
          have HHi := Lib.hid (fun W => HH.out i hin W)
          by_cases hh : holdV (f i) = 100 - (t : Int)
          · have HE : Hid ((Z ++ pick (fun i => decide (holdV (f i) = 100 - (t : Int))) f (i + 1)).map BS.id = (Z ++ pick (fun i => decide (holdV (f i) = 100 - (t : Int))) f i).map BS.id ++ [(f i).id]) := by
              show _ = _
              rw [pick_hit (p := fun i => decide (holdV (f i) = 100 - (t : Int))) (by simp [hh])]
              simp
            have hb : (holdV (f i) == 100 - (t : Int)) = true := by simp [hh]
            have hlen : ((Z ++ pick (fun i => decide (holdV (f i) = 100 - (t : Int))) f i).map BS.id).length ≤ 1224 := by simp; omega
            have HO := Lib.hid hO.out
            clear hO hh hpl
            generalize holdV (f i) = hv at HHi hb
            generalize (Z ++ pick (fun i => decide (holdV (f i) = 100 - (t : Int))) f i).map BS.id = Y at HE hlen HO ⊢
            go_wp2_with fail
            refine (HHi.out _).mono ?_
            rintro e w3 ⟨rfl, hbw3⟩
            obtain ⟨hzw3, hcw3, hfw3⟩ := bfacts hbw3; (try simp at hzw3 hcw3 hfw3); (try (have : w.heap.size < w3.heap.size := by omega)); (try (have : w.heap.size + 1 < w3.heap.size := by omega)); (try (have : w.heap.size + 1 + 1 < w3.heap.size := by omega)); (try (have : w.heap.size + 1 + 1 + 1 < w3.heap.size := by omega))
            have HO3 := Lib.hid (ownsRow_below HO.out hbw3)
            go_wp2_with (at_builtin; refine wpList_append_int1 _ rfl _ _ 51 rfl w.heap.size 3 i0 Try.underlying51 hi0 hz0 hz1 hz2 _ _ _ rfl ((HO3.out.alloc _)) _ _ ((f i).id) rfl ?_ ?_ ?_ ?_; go_must (focus (simp; done)); go_must (focus omega); go_must (focus (first | omega | (simp; omega) | (simp; done))); intro v9 w7 hOw7 hbw7; have hzw7 := hbw7.size; (try simp at hzw7))
            go_roundw
            case rel => exact ⟨i + 1, by omega, by go_num, by rw [HE.out]; exact owns_snoc hOw7, by repeat' (first | (with_reducible exact Below.refl _ _) | (with_reducible assumption) | (with_reducible refine Below.alloc ?_ ?_ _) | (with_reducible refine Below.drew ?_) | (with_reducible refine Below.setCell ?_ ?_ _) | (with_reducible refine Below.stepB (by assumption) ?_ ?_) | go_size)⟩
            case measure => simp [intOf]; omega
          · have HE : Hid ((Z ++ pick (fun i => decide (holdV (f i) = 100 - (t : Int))) f (i + 1)).map BS.id = (Z ++ pick (fun i => decide (holdV (f i) = 100 - (t : Int))) f i).map BS.id) := by
              show _ = _
              rw [pick_miss (p := fun i => decide (holdV (f i) = 100 - (t : Int))) (by simp [hh])]
            have hb : (holdV (f i) == 100 - (t : Int)) = false := by simp [hh]
            have HO := Lib.hid hO.out
            clear hO hh hpl
            generalize holdV (f i) = hv at HHi hb
            generalize (Z ++ pick (fun i => decide (holdV (f i) = 100 - (t : Int))) f i).map BS.id = Y at HE HO ⊢
            go_wp2_with fail
            refine (HHi.out _).mono ?_
            rintro e w3 ⟨rfl, hbw3⟩
            obtain ⟨hzw3, hcw3, hfw3⟩ := bfacts hbw3; (try simp at hzw3 hcw3 hfw3); (try (have : w.heap.size < w3.heap.size := by omega)); (try (have : w.heap.size + 1 < w3.heap.size := by omega)); (try (have : w.heap.size + 1 + 1 < w3.heap.size := by omega)); (try (have : w.heap.size + 1 + 1 + 1 < w3.heap.size := by omega))
            have HO3 := Lib.hid (ownsRow_below HO.out hbw3)
            go_wp2
            go_roundw
            case rel => exact ⟨i + 1, by omega, by go_num, by rw [HE.out]; exact HO3.out, by repeat' (first | (with_reducible exact Below.refl _ _) | (with_reducible assumption) | (with_reducible refine Below.alloc ?_ ?_ _) | (with_reducible refine Below.drew ?_) | (with_reducible refine Below.setCell ?_ ?_ _) | (with_reducible refine Below.stepB (by assumption) ?_ ?_) | go_size)⟩
            case measure => simp [intOf]; omega
        · obtain rfl : i = n := by omega
          have HO := Lib.hid hO.out
          clear hO
          go_wp2
          go_roundw
          case rel => exact ⟨t + 1, by omega, by congr 1; omega, by rw [HL.out]; exact HO.out, hbq⟩
          case measure => simp [intOf]; omega
    · obtain rfl : t = T := by omega
      have hge : ¬ least ≤ 100 - (t : Int) := by omega
      have HO := Lib.hid hO.out
      have HFY := Lib.hid (congrArg (List.map BS.id) HF.out)
      clear hO hTL
      generalize (levN holdV f n t).map BS.id = Y at HO HFY ⊢
      go_wp2
      go_ret2
      exact IntsOut.row HO.out HFY.out.symm rfl (Nat.le_refl _) hbr
theorem AnchorPlaces_any (b off n c : Nat) (f : Nat → BS) (least : Int) (w : World) (hS : SlS w (some ⟨b, off, none⟩) n f) (hn : n ≤ 1048576) :
    Calls Try.prog 35 #[.slice (some ⟨b, off, none⟩) n c, .int .i64 least] w fun e w' => IntsOut w (anchL f least n) (anchOk f least n) e w' := by
  rcases Bool.eq_false_or_eq_true (anchOk f least n) with h | h
  · rw [anchL, h]
    exact AnchorPlaces_yes b off n c f least w hS hn h
  · rw [anchL, h]
    exact AnchorPlaces_no _ n c f least w hS hn h
theorem specAnchor_any (A : Option Addr) (n c : Nat) (f : Nat → BS) (least : Int) (w : World) (hS : SlS w A n f) (hn : n ≤ 1048576) :
    Calls Try.prog 34 #[.slice A n c, .int .i64 least] w fun e w' => IntsOut w (anchL f least n) (anchOk f least n) e w' := by
  rcases Bool.eq_false_or_eq_true (anchOk f least n) with h | h
  · rw [anchL, h]
    exact specAnchor_yes A n c f least w hS hn h
  · rw [anchL, h]
    exact specAnchor_no _ n c f least w hS hn h
theorem law_AnchorPlaces (A : Option Addr) (n c : Nat) (f : Nat → BS) (least : Int) (w : World) (hS : SlS w A n f) (hm : n ≤ 9223372036854775807) : Calls Try.prog 10 #[.slice A n c, .int .i64 least] w
    fun e w' => e = .returned (.bool true) ∧ Below w.heap.size w w' := by
  have HS := Lib.hid hS
  clear hS
  by_cases hn : n ≤ 1048576
  · have hR := Lib.hid (anchL_len f least n hn)
    go_enter Try.func10, Try.ntmps10
    go_wp2_with (go_at_call 22; refine (sz_yes A n c _ hn).mono ?_; rintro e w' ⟨rfl, rfl⟩)
    go_wp2_with fail
    refine (toBottomSampleS_ex A n c f _ (HS.out.below (by repeat' (first | (with_reducible exact Below.refl _ _) | (with_reducible assumption) | (with_reducible refine Below.alloc ?_ ?_ _) | (with_reducible refine Below.drew ?_) | (with_reducible refine Below.setCell ?_ ?_ _) | (with_reducible refine Below.stepB (by assumption) ?_ ?_) | go_size))) hn).mono ?_
    rintro e w1 ⟨b1, rfl, hO1, hbw1⟩
    obtain ⟨hzw1, hcw1, hfw1⟩ := bfacts hbw1; (try simp at hzw1 hcw1 hfw1); (try (have : w.heap.size < w1.heap.size := by omega)); (try (have : w.heap.size + 1 < w1.heap.size := by omega)); (try (have : w.heap.size + 1 + 1 < w1.heap.size := by omega)); (try (have : w.heap.size + 1 + 1 + 1 < w1.heap.size := by omega))
    go_wp2_with fail
    refine (specAnchor_any _ n n f least _ hO1.sl hn).mono ?_
    rintro e w3 ⟨A1, c1, rfl, OW, hbw3⟩
    obtain ⟨hzw3, hcw3, hfw3⟩ := bfacts hbw3; (try simp at hzw3 hcw3 hfw3); (try (have : w.heap.size < w3.heap.size := by omega)); (try (have : w.heap.size + 1 < w3.heap.size := by omega)); (try (have : w.heap.size + 1 + 1 < w3.heap.size := by omega)); (try (have : w.heap.size + 1 + 1 + 1 < w3.heap.size := by omega))
    go_wp2_with fail
    refine (toBottomSampleS_ex A n c f _ (HS.out.below (by repeat' (first | (with_reducible exact Below.refl _ _) | (with_reducible assumption) | (with_reducible refine Below.alloc ?_ ?_ _) | (with_reducible refine Below.drew ?_) | (with_reducible refine Below.setCell ?_ ?_ _) | (with_reducible refine Below.stepB (by assumption) ?_ ?_) | go_size))) hn).mono ?_
    rintro e w4 ⟨b4, rfl, hO4, hbw4⟩
    obtain ⟨hzw4, hcw4, hfw4⟩ := bfacts hbw4; (try simp at hzw4 hcw4 hfw4); (try (have : w.heap.size < w4.heap.size := by omega)); (try (have : w.heap.size + 1 < w4.heap.size := by omega)); (try (have : w.heap.size + 1 + 1 < w4.heap.size := by omega)); (try (have : w.heap.size + 1 + 1 + 1 < w4.heap.size := by omega))
    go_wp2_with fail
    refine (AnchorPlaces_any _ _ n n f least _ hO4.sl hn).mono ?_
    rintro e w5 ⟨A2, c2, rfl, OG, hbw5⟩
    obtain ⟨hzw5, hcw5, hfw5⟩ := bfacts hbw5; (try simp at hzw5 hcw5 hfw5); (try (have : w.heap.size < w5.heap.size := by omega)); (try (have : w.heap.size + 1 < w5.heap.size := by omega)); (try (have : w.heap.size + 1 + 1 < w5.heap.size := by omega)); (try (have : w.heap.size + 1 + 1 + 1 < w5.heap.size := by omega))
    have hOG := Lib.hid (OG)
    have hWr := OW.range
    have hXr := hO4.range
    have hGr := OG.range
    go_wp2_with fail
    refine (eqIntS_same _ _ _ _ _ _ _ OG.sl (OW.below (by repeat' (first | (with_reducible exact Below.refl _ _) | (with_reducible assumption) | (with_reducible refine Below.alloc ?_ ?_ _) | (with_reducible refine Below.drew ?_) | (with_reducible refine Below.setCell ?_ ?_ _) | (with_reducible refine Below.stepB (by assumption) ?_ ?_) | go_size))).sl hR.out).mono ?_
    rintro e w7 ⟨rfl, hbw7⟩
    obtain ⟨hzw7, hcw7, hfw7⟩ := bfacts hbw7; (try simp at hzw7 hcw7 hfw7); (try (have : w.heap.size < w7.heap.size := by omega)); (try (have : w.heap.size + 1 < w7.heap.size := by omega)); (try (have : w.heap.size + 1 + 1 < w7.heap.size := by omega)); (try (have : w.heap.size + 1 + 1 + 1 < w7.heap.size := by omega))
    go_wp2_with fail
    refine (toBottomSampleS_ex A n c f _ (HS.out.below (by repeat' (first | (with_reducible exact Below.refl _ _) | (with_reducible assumption) | (with_reducible refine Below.alloc ?_ ?_ _) | (with_reducible refine Below.drew ?_) | (with_reducible refine Below.setCell ?_ ?_ _) | (with_reducible refine Below.stepB (by assumption) ?_ ?_) | go_size))) hn).mono ?_
    rintro e w8 ⟨b8, rfl, hO8, hbw8⟩
    obtain ⟨hzw8, hcw8, hfw8⟩ := bfacts hbw8; (try simp at hzw8 hcw8 hfw8); (try (have : w.heap.size < w8.heap.size := by omega)); (try (have : w.heap.size + 1 < w8.heap.size := by omega)); (try (have : w.heap.size + 1 + 1 < w8.heap.size := by omega)); (try (have : w.heap.size + 1 + 1 + 1 < w8.heap.size := by omega))
    go_wp2_with fail
    refine (eqBottomSampleS_same _ _ n n n f _ (hO4.below (by repeat' (first | (with_reducible exact Below.refl _ _) | (with_reducible assumption) | (with_reducible refine Below.alloc ?_ ?_ _) | (with_reducible refine Below.drew ?_) | (with_reducible refine Below.setCell ?_ ?_ _) | (with_reducible refine Below.stepB (by assumption) ?_ ?_) | go_size))).sl hO8.sl hn).mono ?_
    rintro e w9 ⟨rfl, hbw9⟩
    obtain ⟨hzw9, hcw9, hfw9⟩ := bfacts hbw9; (try simp at hzw9 hcw9 hfw9); (try (have : w.heap.size < w9.heap.size := by omega)); (try (have : w.heap.size + 1 < w9.heap.size := by omega)); (try (have : w.heap.size + 1 + 1 < w9.heap.size := by omega)); (try (have : w.heap.size + 1 + 1 + 1 < w9.heap.size := by omega))
    have OW9 := OW.below (w' := w9) (by repeat' (first | (with_reducible exact Below.refl _ _) | (with_reducible assumption) | (with_reducible refine Below.alloc ?_ ?_ _) | (with_reducible refine Below.drew ?_) | (with_reducible refine Below.setCell ?_ ?_ _) | (with_reducible refine Below.stepB (by assumption) ?_ ?_) | go_size))
    have OG9 := hOG.out.below (w' := w9) (by repeat' (first | (with_reducible exact Below.refl _ _) | (with_reducible assumption) | (with_reducible refine Below.alloc ?_ ?_ _) | (with_reducible refine Below.drew ?_) | (with_reducible refine Below.setCell ?_ ?_ _) | (with_reducible refine Below.stepB (by assumption) ?_ ?_) | go_size))
    go_wp2_with fail
    refine (markBottomSampleS_any _ n n _ _ _ (hO4.below (by repeat' (first | (with_reducible exact Below.refl _ _) | (with_reducible assumption) | (with_reducible refine Below.alloc ?_ ?_ _) | (with_reducible refine Below.drew ?_) | (with_reducible refine Below.setCell ?_ ?_ _) | (with_reducible refine Below.stepB (by assumption) ?_ ?_) | go_size))) hn 1 (by decide) (by decide)).mono ?_
    rintro e w10 ⟨rfl, hO10, hkw10⟩
    have hbw10 := hkw10.below hXr (Nat.le_refl _) (by omega)
    have hzw10 := hbw10.size
    have OW10 := OW9.kept hkw10 hWr hXr (.inl (by omega))
    have OG10 := OG9.kept hkw10 hGr hXr (.inr (by omega))
    clear OW9 OG9 hO10
    go_wp2_with fail
    refine (eqIntS_same _ _ _ _ _ _ _ OG10.sl OW10.sl hR.out).mono ?_
    rintro e w11 ⟨rfl, hbw11⟩
    obtain ⟨hzw11, hcw11, hfw11⟩ := bfacts hbw11; (try simp at hzw11 hcw11 hfw11); (try (have : w.heap.size < w11.heap.size := by omega)); (try (have : w.heap.size + 1 < w11.heap.size := by omega)); (try (have : w.heap.size + 1 + 1 < w11.heap.size := by omega)); (try (have : w.heap.size + 1 + 1 + 1 < w11.heap.size := by omega))
    have OW11 := OW10.below hbw11
    go_wp2_with fail
    refine (markIntS_any _ _ _ _ _ _ (OG10.below hbw11) hR.out 1 (by decide) (by decide)).mono ?_
    rintro e w12 ⟨rfl, OG12, hkw12⟩
    have hbw12 := hkw12.below hGr (Nat.le_refl _) (by omega)
    have hzw12 := hbw12.size
    have OW12 := OW11.kept hkw12 hWr hGr (.inl (by omega))
    clear OW10 OG10 OW11
    go_wp2_with fail
    refine (heldIntS_any _ _ _ _ 1 OG12.sl hR.out (by decide) (by decide)).mono ?_
    rintro e w13 ⟨rfl, hbw13⟩
    obtain ⟨hzw13, hcw13, hfw13⟩ := bfacts hbw13; (try simp at hzw13 hcw13 hfw13); (try (have : w.heap.size < w13.heap.size := by omega)); (try (have : w.heap.size + 1 < w13.heap.size := by omega)); (try (have : w.heap.size + 1 + 1 < w13.heap.size := by omega)); (try (have : w.heap.size + 1 + 1 + 1 < w13.heap.size := by omega))
    go_wp2_with fail
    refine (toBottomSampleS_ex A n c f _ (HS.out.below (by repeat' (first | (with_reducible exact Below.refl _ _) | (with_reducible assumption) | (with_reducible refine Below.alloc ?_ ?_ _) | (with_reducible refine Below.drew ?_) | (with_reducible refine Below.setCell ?_ ?_ _) | (with_reducible refine Below.stepB (by assumption) ?_ ?_) | go_size))) hn).mono ?_
    rintro e w14 ⟨b14, rfl, hO14, hbw14⟩
    obtain ⟨hzw14, hcw14, hfw14⟩ := bfacts hbw14; (try simp at hzw14 hcw14 hfw14); (try (have : w.heap.size < w14.heap.size := by omega)); (try (have : w.heap.size + 1 < w14.heap.size := by omega)); (try (have : w.heap.size + 1 + 1 < w14.heap.size := by omega)); (try (have : w.heap.size + 1 + 1 + 1 < w14.heap.size := by omega))
    go_wp2_with fail
    refine (AnchorPlaces_any _ _ n n f least _ hO14.sl hn).mono ?_
    rintro e w16 ⟨A3, c3, rfl, OH, hbw16⟩
    obtain ⟨hzw16, hcw16, hfw16⟩ := bfacts hbw16; (try simp at hzw16 hcw16 hfw16); (try (have : w.heap.size < w16.heap.size := by omega)); (try (have : w.heap.size + 1 < w16.heap.size := by omega)); (try (have : w.heap.size + 1 + 1 < w16.heap.size := by omega)); (try (have : w.heap.size + 1 + 1 + 1 < w16.heap.size := by omega))
    go_wp2_with fail
    refine (eqIntS_same _ _ _ _ _ _ _ OH.sl (OW12.below (by repeat' (first | (with_reducible exact Below.refl _ _) | (with_reducible assumption) | (with_reducible refine Below.alloc ?_ ?_ _) | (with_reducible refine Below.drew ?_) | (with_reducible refine Below.setCell ?_ ?_ _) | (with_reducible refine Below.stepB (by assumption) ?_ ?_) | go_size))).sl hR.out).mono ?_
    rintro e w17 ⟨rfl, hbw17⟩
    obtain ⟨hzw17, hcw17, hfw17⟩ := bfacts hbw17; (try simp at hzw17 hcw17 hfw17); (try (have : w.heap.size < w17.heap.size := by omega)); (try (have : w.heap.size + 1 < w17.heap.size := by omega)); (try (have : w.heap.size + 1 + 1 < w17.heap.size := by omega)); (try (have : w.heap.size + 1 + 1 + 1 < w17.heap.size := by omega))
    go_wp2_with fail
    refine (heldIntS_any _ _ _ _ 1 (OG12.below (by repeat' (first | (with_reducible exact Below.refl _ _) | (with_reducible assumption) | (with_reducible refine Below.alloc ?_ ?_ _) | (with_reducible refine Below.drew ?_) | (with_reducible refine Below.setCell ?_ ?_ _) | (with_reducible refine Below.stepB (by assumption) ?_ ?_) | go_size))).sl hR.out (by decide) (by decide)).mono ?_
    rintro e w18 ⟨rfl, hbw18⟩
    obtain ⟨hzw18, hcw18, hfw18⟩ := bfacts hbw18; (try simp at hzw18 hcw18 hfw18); (try (have : w.heap.size < w18.heap.size := by omega)); (try (have : w.heap.size + 1 < w18.heap.size := by omega)); (try (have : w.heap.size + 1 + 1 < w18.heap.size := by omega)); (try (have : w.heap.size + 1 + 1 + 1 < w18.heap.size := by omega))
    go_wp2
    go_ret
    exact ⟨rfl, by repeat' (first | (with_reducible exact Below.refl _ _) | (with_reducible assumption) | (with_reducible refine Below.alloc ?_ ?_ _) | (with_reducible refine Below.drew ?_) | (with_reducible refine Below.setCell ?_ ?_ _) | (with_reducible refine Below.stepB (by assumption) ?_ ?_) | go_size)⟩
  · go_enter Try.func10, Try.ntmps10
    go_wp2_with (go_at_call 22; refine (sz_no A n c _ (by omega) hm).mono ?_; rintro e w' ⟨rfl, rfl⟩)
    go_ret
    exact ⟨rfl, by repeat' (first | (with_reducible exact Below.refl _ _) | (with_reducible assumption) | (with_reducible refine Below.alloc ?_ ?_ _) | (with_reducible refine Below.drew ?_) | (with_reducible refine Below.setCell ?_ ?_ _) | (with_reducible refine Below.stepB (by assumption) ?_ ?_) | go_size)⟩

end Go.Proofs.Ytfecepjdjikenaa
