/- Contract: the reference's counts of letters. -/
import Derived.Test.YtfecepjdjikenaaCnt
namespace Go.Proofs.Ytfecepjdjikenaa
open Go.RowKit
theorem ownsRow_blk {w : World} {base : Nat} {e : TypeId} {k g : Nat} (h : Blk w g e #[]) (hb : base ≤ g) : w.ownsRow base e k (.slice (some ⟨g, 0, none⟩) 0 0) 0 [] :=
  ⟨by simp, .inr ⟨g, 0, #[], rfl, hb, h, Nat.le_refl _, Nat.zero_le _, by simp, by simp⟩⟩
theorem one_at0 {w : World} {g : Nat} {t : TypeId} {u : Value} (h : Blk w g t #[u]) : ∀ i j, i < 1 → j < 1 → w.cell? ⟨g, 0 + i * 1 + j, none⟩ = some u := fun i j hi hj => by
  obtain rfl : i = 0 := by omega
  obtain rfl : j = 0 := by omega
  exact h.cell 0
theorem flat_put {α : Type} (val : α → Value) (d : α) {Y : List α} {x : α} {k : Nat} (hk : k ≤ Y.length) :
    (flatG 1 (fun q _ => val (Y.getD q d)) k ++ flatG 1 (fun _ _ => val x) 1) ++ flatG 1 (fun q _ => val (Y.getD (k + q) d)) (Y.length - k) = (Y.take k ++ x :: Y.drop k).map val := by
  have e1 : flatG 1 (fun q _ => val (Y.getD q d)) k = (Y.take k).map val := by
    refine List.ext_getElem? (fun q => ?_)
    by_cases hq : q < k
    · have h := flatG_get (k := 1) (g := fun q _ => val (Y.getD q d)) (n := k) (i := q) (j := 0) hq (by decide)
      simp only [Nat.mul_one, Nat.add_zero] at h
      rw [h, List.getElem?_map, List.getElem?_take_of_lt hq]
      simp [List.getD, show q < Y.length by omega]
    · rw [List.getElem?_eq_none (by rw [flatG_len]; omega), List.getElem?_eq_none (by simp; omega)]
  have e2 : flatG 1 (fun _ _ => val x) 1 = [val x] := rfl
  have e3 : flatG 1 (fun q _ => val (Y.getD (k + q) d)) (Y.length - k) = (Y.drop k).map val := by
    refine List.ext_getElem? (fun q => ?_)
    by_cases hq : q < Y.length - k
    · have h := flatG_get (k := 1) (g := fun q _ => val (Y.getD (k + q) d)) (n := Y.length - k) (i := q) (j := 0) hq (by decide)
      simp only [Nat.mul_one, Nat.add_zero] at h
      rw [h, List.getElem?_map, List.getElem?_drop]
      simp [List.getD, show k + q < Y.length by omega]
    · rw [List.getElem?_eq_none (by rw [flatG_len]; omega), List.getElem?_eq_none (by simp; omega)]
  rw [e1, e2, e3]
  simp
theorem own_put {α : Type} (val : α → Value) (d : α) {w : World} {base base' : Nat} {e : TypeId} {v : Value} {Y : List α} {x : α} {m k : Nat} (h : w.ownsRow base e 1 v (k + 1 + m) ((flatG 1 (fun q _ => val (Y.getD q d)) k ++ flatG 1 (fun _ _ => val x) 1) ++ flatG 1 (fun q _ => val (Y.getD (k + q) d)) m))
    (hb : base' ≤ base) (hm : m = Y.length - k) (hk : k ≤ Y.length) : w.ownsRow base' e 1 v (Y.length + 1) ((Y.take k ++ x :: Y.drop k).map val) := by
  subst hm
  rw [flat_put val d hk] at h
  rw [show Y.length + 1 = k + 1 + (Y.length - k) by omega]
  exact own_base h hb
theorem set_put {α : Type} {Y : List α} {x y : α} {k : Nat} (hk : k ≤ Y.length) : (Y.take k ++ x :: Y.drop k).set k y = Y.take k ++ y :: Y.drop k := by
  have e : (Y.take k).length = k := by simp; omega
  have h := List.set_append_right (s := Y.take k) (t := x :: Y.drop k) k y (by omega)
  rw [h, e, Nat.sub_self]
  rfl
theorem get_put {α : Type} {Y : List α} {x : α} {k : Nat} (hk : k ≤ Y.length) : (Y.take k ++ x :: Y.drop k)[k]? = some x := by
  have e : (Y.take k).length = k := by simp; omega
  rw [List.getElem?_append_right (by omega), e, Nat.sub_self]
  rfl
theorem put_len {α : Type} {Y : List α} {x : α} {k : Nat} (hk : k ≤ Y.length) : (Y.take k ++ x :: Y.drop k).length = Y.length + 1 := by simp; omega
set_option maxRecDepth 100000 in
set_option maxHeartbeats 4000000 in
theorem specCounts_yes (A : Option Addr) (n c : Nat) (f : Nat → BS) (w : World) (hS : SlS w A n f) (hn : n ≤ 1048576) (h : cntsOk f n = true) :
    Calls Try.prog 42 #[.slice A n c] w fun e w' => ∃ D C, CntOk (· < ·) (lettN f n) D C ∧ D.length ≤ n ∧ CntOut w D C true e w' := by
  obtain ⟨hg, h12⟩ : goodUpto f n = true ∧ n ≤ 12 := by simpa [cntsOk] using h
  have hok := Lib.hid (good_lt hg)
  have hA := fun W (hb : Below w.heap.size w W) => l18Good_any A n c f W (hS.below hb) hn
  unfold cntsOk at h
  rw [h] at hA
  have HA := Lib.hid hA
  have HLT := Lib.hid (fun i (hi : i < n) W => l18Letters_any (f i) W (hok.out i hi))
  obtain ⟨s0, hs0, hy0, hy1, hy2⟩ := info_parts str_info
  obtain ⟨i0, hi0, hz0, hz1, hz2⟩ := info_parts intS_info
  have HS := Lib.hid hS
  clear hA hS hg h
  go_enter Try.func42, Try.ntmps42
  go_wp2_with fail
  refine (HA.out _ (by repeat' (first | (with_reducible exact Below.refl _ _) | (with_reducible assumption) | (with_reducible refine Below.alloc ?_ ?_ _) | (with_reducible refine Below.drew ?_) | (with_reducible refine Below.setCell ?_ ?_ _) | (with_reducible refine Below.stepB (by assumption) ?_ ?_) | go_size))).mono ?_
  rintro e w1 ⟨rfl, hbw1⟩
  obtain ⟨hzw1, hcw1, hfw1⟩ := bfacts hbw1; (try simp at hzw1 hcw1 hfw1); (try (have : w.heap.size < w1.heap.size := by omega)); (try (have : w.heap.size + 1 < w1.heap.size := by omega)); (try (have : w.heap.size + 1 + 1 < w1.heap.size := by omega)); (try (have : w.heap.size + 1 + 1 + 1 < w1.heap.size := by omega))
  have hO8 := ownsRow_below ((ownsRow_empty w 9 1).alloc (.cells #[] 3)) hbw1
  have hO9 := ownsRow_below (own_base (base' := w.heap.size) (ownsRow_empty (w.alloc (.cells #[] 9)) 3 1) (by simp)) hbw1
  simp at hO9
  have hO8 := Lib.hid hO8
  have hO9 := Lib.hid hO9
  go_wp2
  go_loopw [5, 6, 7] (fun v5 v6 v7 wr => ∃ i : Nat, ∃ D C b5 c5 b6 c6, i ≤ n ∧ v7 = .int .i64 i ∧ v5 = .slice (some ⟨b5, 0, none⟩) D.length c5 ∧ v6 = .slice (some ⟨b6, 0, none⟩) C.length c6 ∧ D.length ≤ i ∧ Hid (CntOk (· < ·) (lettN f i) D C) ∧
    Hid (wr.ownsRow w.heap.size 9 1 (.slice (some ⟨b5, 0, none⟩) D.length c5) D.length (D.map strV)) ∧ Hid (wr.ownsRow w.heap.size 3 1 (.slice (some ⟨b6, 0, none⟩) C.length c6) C.length (C.map (Value.int .i64))) ∧ Below w.heap.size w wr) (fun _ _ v7 _ => n - (intOf v7).toNat)
  case atStart => exact ⟨0, [], [], _, _, _, _, Nat.zero_le _, rfl, rfl, rfl, Nat.zero_le _, cnt_nil _, hO8.out, hO9.out, by repeat' (first | (with_reducible exact Below.refl _ _) | (with_reducible assumption) | (with_reducible refine Below.alloc ?_ ?_ _) | (with_reducible refine Below.drew ?_) | (with_reducible refine Below.setCell ?_ ?_ _) | (with_reducible refine Below.stepB (by assumption) ?_ ?_) | go_size)⟩
  case round =>
    clear hO8 hO9
    obtain ⟨i, D, C, b5, c5, b6, c6, hi, rfl, rfl, rfl, hDi, hC, hP5, hP6, hbr⟩ := hrel
    have hzr := hbr.size
    by_cases hlt : i < n
    · obtain ⟨b, off, rfl, hbl, hbl2, d0, d1, d2, d3, d4, d5, -⟩ := HS.out.at hbr hlt
      have HE := Lib.hid (lettN_snoc f i)
      have HL := Lib.hid (fun W => HLT.out i hlt W)
      obtain ⟨s, hs⟩ : ∃ s, lettV (f i) = s := ⟨_, rfl⟩
      rw [hs] at HL HE
      have HX := Lib.hid (lettN_len f i)
      clear hs
      generalize lettN f i = X at hC HE HX
      go_wp2_with fail
      refine (HL.out _).mono ?_
      rintro e w3 ⟨rfl, hbw3⟩
      have hz3 := hbw3.size
      have hP5 := Lib.hid (ownsRow_below hP5.out (hbw3.mono (by first | omega | (simp; omega) | simp)))
      have hP6 := Lib.hid (ownsRow_below hP6.out (hbw3.mono (by first | omega | (simp; omega) | simp)))
      have HB3 := Lib.hid (show Below w.heap.size w w3 from by repeat' (first | (with_reducible exact Below.refl _ _) | (with_reducible assumption) | (with_reducible refine Below.alloc ?_ ?_ _) | (with_reducible refine Below.drew ?_) | (with_reducible refine Below.setCell ?_ ?_ _) | (with_reducible refine Below.stepB (by assumption) ?_ ?_) | go_size))
      obtain ⟨o1, o2, o3, o4⟩ := ownsRow_lt hP5.out
      obtain ⟨o5, o6, o7, o8⟩ := ownsRow_lt hP6.out
      have hcl := cnt_len hC.out
      have HBD := Lib.hid (fun j => cnt_bd hC.out j)
      have HXl : X.length ≤ 12 := by have := HX.out; omega
      have HDI := Lib.hid hDi
      have hd12 : D.length ≤ 12 := by omega
      clear d0 d1 d2 d3 d4 d5 hbr hbw3 hDi
      have HCD := Lib.hid (fun (W : World) (hb : Below w3.heap.size w3 W) (q j : Nat) (hq : q < D.length) (hj : j < 1) => show W.cell? ⟨b5, 0 + q * 1 + j, none⟩ = some (.string ⟨(D.getD q []).toArray⟩) from by
        obtain rfl : j = 0 := by omega
        have h := (ownsRow_get (k := q) (u := strV (D.getD q [])) (ownsRow_below hP5.out hb) hq (by simp [List.getD, hq])).2.1
        simpa [strV] using h)
      have HCC := Lib.hid (fun (W : World) (hb : Below w3.heap.size w3 W) (q j : Nat) (hq : q < C.length) (hj : j < 1) => show W.cell? ⟨b6, 0 + q * 1 + j, none⟩ = some (.int .i64 (C.getD q 0)) from by
        obtain rfl : j = 0 := by omega
        have h := (ownsRow_get (k := q) (u := .int .i64 (C.getD q 0)) (ownsRow_below hP6.out hb) hq (by simp [List.getD, hq])).2.1
        simpa using h)
      have HCL := Lib.hid hcl
      have hc12 : C.length ≤ 12 := by omega
      have hcl1 : C.length ≤ D.length := by omega
      have hcl2 : D.length ≤ C.length := by omega
      clear hcl
      go_wp2
      go_loopw [9] (fun v9 wq => ∃ k : Nat, k ≤ D.length ∧ v9 = .int .i64 k ∧ Hid (∀ j, j < k → D.getD j [] < s) ∧ w3 = wq) (fun v9 _ => D.length - (intOf v9).toNat)
      case atStart => exact ⟨0, Nat.zero_le _, rfl, fun j hj => absurd hj (Nat.not_lt_zero _), rfl⟩
      case round =>
        obtain ⟨k, hk, rfl, hall, rfl⟩ := hrel
        have HTA : Hid (∀ a, a ∈ D.take k → a < s) := fun a ha => by
          obtain ⟨j, hj, rfl⟩ := List.mem_iff_getElem.1 ha
          rw [List.length_take] at hj
          have := hall.out j (by omega)
          rw [List.getElem_take]
          simpa [List.getD, show j < D.length by omega] using this
        by_cases hlk : k < D.length
        · have y0 := HCD.out _ (Below.refl _ _) k 0 hlk (by decide)
          rw [show 0 + k * 1 + 0 = k by omega] at y0
          have hDk : D.getD k [] = D[k] := by simp [List.getD, hlk]
          by_cases hc : D.getD k [] < s
          · have hall2 : Hid (∀ j, j < k + 1 → D.getD j [] < s) := fun j hj => by
              rcases Nat.lt_or_ge j k with h1 | h1
              · exact hall.out j h1
              · have : j = k := by omega
                rw [this]
                exact hc
            clear hDk
            generalize D.getD k [] = d at y0 hc
            have hd : Op.bytesLess d s = true := by rw [bytesLess_eq]; exact decide_eq_true hc
            go_wp2
            go_roundw
            case rel => exact ⟨k + 1, by omega, by go_num, hall2, by trivial⟩
            case measure => simp [intOf]; omega
          · by_cases he : D.getD k [] = s
            · have HOLD : Hid (CntOk (· < ·) (lettN f (i + 1)) D (C.set k (C.getD k 0 + 1))) := by
                have h := cnt_old ltS_irr (s := s) hC.out hlk (by rw [← hDk]; exact he)
                rw [HE.out]
                exact h
              rw [he] at y0 hc
              have hd : Op.bytesLess s s = false := by rw [bytesLess_eq]; exact decide_eq_false hc
              have hkn : ((k : Int) == (D.length : Int)) = false := by simp; omega
              obtain ⟨g1, g2, g3⟩ := ownsRow_get (k := k) (u := .int .i64 (C.getD k 0)) hP6.out (by omega) (by simp [List.getD, show k < C.length by omega])
              have hz := HBD.out k
              generalize C.getD k 0 = z at g2 HOLD hz
              have HR8 := Lib.hid (ownsRow_setOther (q := k) (u := .int .i64 (z + 1)) hP5.out hP6.out (by decide))
              have HR9 := Lib.hid (ownsRow_set (k := k) (u := .int .i64 (z + 1)) hP6.out (by omega))
              clear hDk he hc
              go_wp2
              go_roundw
              case rel =>
                refine ⟨i + 1, D, C.set k (z + 1), b5, c5, b6, c6, by omega, by go_num, rfl, by simp, by have := HDI.out; omega, HOLD.out, HR8.out, ?_, Below.setCell HB3.out o5 _⟩
                have h := HR9.out
                simp at h ⊢
                exact h
              case measure => simp [intOf]; omega
            · have HNEW : Hid (CntOk (· < ·) (lettN f (i + 1)) (D.take k ++ s :: D.drop k) (C.take k ++ 1 :: C.drop k)) := by
                have h := cnt_new ltS_irr ltS_tr hC.out (Nat.le_of_lt hlk) HTA.out (fun _ => by
                  rw [← hDk]
                  rcases ltS_tri (D.getD k []) s with h1 | h1 | h1
                  · exact absurd h1 hc
                  · exact absurd h1 he
                  · exact h1)
                rw [HE.out]
                exact h
              have hd : Op.bytesLess (D.getD k []) s = false := by rw [bytesLess_eq]; exact decide_eq_false hc
              have he2 : (D.getD k [] == s) = false := by simpa using he
              have hkn : ((k : Int) == (D.length : Int)) = false := by simp; omega
              have hkC : k ≤ C.length := by omega
              have hkD : k ≤ D.length := by omega
              have hkc5 : k ≤ c5 := by omega
              have hkc6 : k ≤ c6 := by omega
              have hck5 : ¬ c5 = k := by omega
              have hck6 : ¬ c6 = k := by omega
              have hDI := HDI.out
              clear hDk he hc
              generalize D.getD k [] = d at y0 hd he2
              go_wp2_with fail
              go_region_law (first
                    | (refine step_append_rowG (by rfl) _ _ 58 (by rfl) w3.heap.size 9 s0 _ 1 16 Try.underlying58 hs0 hy0 hy1 hy2 (by rfl) (by decide) (.slice (some ⟨w3.heap.size, 0, none⟩) 0 0) 0 [] (by rfl) ?_ b5 0 k c5 (fun q _ => .string ⟨(D.getD q []).toArray⟩) (by rfl) ?_ (fun _ _ => rfl) (by omega) (by decide) ?_ ?_; go_must (focus first | exact ownsRow_blk (Blk.drew (blk_newO w3 _ _ rfl)) (Nat.le_refl _) | exact ownsRow_blk (Blk.drew ((blk_newO w3 _ _ rfl).alloc _)) (Nat.le_refl _)); go_loud (focus exact fun q j hq hj => HCD.out _ (by repeat' (first | (with_reducible exact Below.refl _ _) | (with_reducible assumption) | (with_reducible refine Below.alloc ?_ ?_ _) | (with_reducible refine Below.drew ?_) | (with_reducible refine Below.setCell ?_ ?_ _) | (with_reducible refine Below.stepB (by assumption) ?_ ?_) | go_size)) q j (by omega) hj); go_loud (focus first | omega | (simp; omega) | (simp; done)); intro v5a w5a hO5a hb5a hk5a; rw [Nat.zero_add, List.nil_append] at hO5a; obtain ⟨A5a, c5a, rfl⟩ := ownsRow_form hO5a; have hz5a := hb5a.size; (try simp at hz5a); (try (have hBf5a : Blk w5a (w3.heap.size + 1) 9 #[.string ⟨s.toArray⟩] := (hk5a _ (by first | (simp; done) | (simp; omega)) (by simp [Value.ownBlock])).trans (show Blk ((w3.alloc (.cells #[] 9)).alloc (.cells #[.string ⟨s.toArray⟩] 9)).drew (w3.heap.size + 1) 9 #[.string ⟨s.toArray⟩] from Blk.drew (blk_newO (w3.alloc (.cells #[] 9)) _ _ (by simp))))); clear hk5a)
                    | (refine step_append_rowG (by rfl) _ _ 58 (by rfl) w3.heap.size 9 s0 _ 1 16 Try.underlying58 hs0 hy0 hy1 hy2 (by rfl) (by decide) (.slice (some ⟨w3.heap.size + 1, 0, none⟩) 0 0) 0 [] (by rfl) ?_ b5 0 k c5 (fun q _ => .string ⟨(D.getD q []).toArray⟩) (by rfl) ?_ (fun _ _ => rfl) (by omega) (by decide) ?_ ?_; go_must (focus exact ownsRow_blk (Blk.drew (blk_newO _ _ _ (by simp))) (by omega)); go_loud (focus exact fun q j hq hj => HCD.out _ (by repeat' (first | (with_reducible exact Below.refl _ _) | (with_reducible assumption) | (with_reducible refine Below.alloc ?_ ?_ _) | (with_reducible refine Below.drew ?_) | (with_reducible refine Below.setCell ?_ ?_ _) | (with_reducible refine Below.stepB (by assumption) ?_ ?_) | go_size)) q j (by omega) hj); go_loud (focus first | omega | (simp; omega) | (simp; done)); intro v5a w5a hO5a hb5a hk5a; rw [Nat.zero_add, List.nil_append] at hO5a; obtain ⟨A5a, c5a, rfl⟩ := ownsRow_form hO5a; have hz5a := hb5a.size; (try simp at hz5a); (try (have hBf5a : Blk w5a w3.heap.size 9 #[.string ⟨s.toArray⟩] := (hk5a _ (by first | (simp; done) | (simp; omega)) (by simp [Value.ownBlock])).trans (show Blk ((w3.alloc (.cells #[.string ⟨s.toArray⟩] 9)).alloc (.cells #[] 9)).drew w3.heap.size 9 #[.string ⟨s.toArray⟩] from Blk.drew ((blk_newO w3 _ _ rfl).alloc _)))); clear hk5a)
                    | (refine step_append_rowG (by rfl) _ _ 58 (by rfl) w3.heap.size 9 s0 _ 1 16 Try.underlying58 hs0 hy0 hy1 hy2 (by rfl) (by decide) _ k (flatG 1 (fun q _ => .string ⟨(D.getD q []).toArray⟩) k) (by rfl) ?_ _ 0 1 1 (fun _ _ => .string ⟨s.toArray⟩) (by rfl) ?_ (fun _ _ => rfl) (by omega) (by decide) ?_ ?_; go_loud (focus first | exact hO5a | exact ownsRow_below hO5a (Below.alloc (Below.refl _ _) (Nat.le_refl _) _)); go_loud (focus first | exact one_at0 hBf5a | exact one_at0 (blk_newO w5a _ _ rfl)); go_loud (focus first | omega | (simp; omega) | (simp; done)); intro v6a w6a hO6a hb6a hk6a; clear hk6a; obtain ⟨A6a, c6a, rfl⟩ := ownsRow_form hO6a; have hz6a := hb6a.size; (try simp at hz6a))
                    | (refine step_append_rowG (by rfl) _ _ 58 (by rfl) w3.heap.size 9 s0 _ 1 16 Try.underlying58 hs0 hy0 hy1 hy2 (by rfl) (by decide) _ (k + 1) (flatG 1 (fun q _ => .string ⟨(D.getD q []).toArray⟩) k ++ flatG 1 (fun _ _ => .string ⟨s.toArray⟩) 1) (by rfl) ?_ b5 k (D.length - k) (c5 - k) (fun q _ => .string ⟨(D.getD (k + q) []).toArray⟩) (by rfl) ?_ (fun _ _ => rfl) (by omega) (by decide) ?_ ?_; go_loud (focus exact hO6a); go_loud (focus (intro q j hq hj; (have h := HCD.out w6a (show Below w3.heap.size w3 w6a from by repeat' (first | (with_reducible exact Below.refl _ _) | (with_reducible assumption) | (with_reducible refine Below.alloc ?_ ?_ _) | (with_reducible refine Below.drew ?_) | (with_reducible refine Below.setCell ?_ ?_ _) | (with_reducible refine Below.stepB (by assumption) ?_ ?_) | go_size)) (k + q) j (by omega) hj; rwa [show 0 + (k + q) * 1 + j = k + q * 1 + j by omega] at h))); go_loud (focus omega); intro v7a w7a hO7a hb7a hk7a; clear hk7a; have hz7a := hb7a.size))
              all_goals
                have HBa := Lib.hid (show Below w3.heap.size w3 w7a from by repeat' (first | (with_reducible exact Below.refl _ _) | (with_reducible assumption) | (with_reducible refine Below.alloc ?_ ?_ _) | (with_reducible refine Below.drew ?_) | (with_reducible refine Below.setCell ?_ ?_ _) | (with_reducible refine Below.stepB (by assumption) ?_ ?_) | go_size))
                have HOa := Lib.hid (own_put strV [] (base' := w.heap.size) hO7a (by omega) (by omega) (by omega))
                obtain ⟨b7a, c7a, rfl⟩ := ownsRow_pos HOa.out (Nat.succ_pos _)
                have HPa := Lib.hid (ownsRow_below hP6.out HBa.out)
                clear hO7a hb7a
                have hw3a := HBa.out.size
                have HCa := Lib.hid (fun (W : World) (hb : Below w7a.heap.size w7a W) => HCC.out W (HBa.out.trans (hb.mono hw3a)))
                go_wp2_with fail
                go_region_law (first
                      | (refine step_append_rowG (by rfl) _ _ 51 (by rfl) w7a.heap.size 3 i0 _ 1 8 Try.underlying51 hi0 hz0 hz1 hz2 (by rfl) (by decide) (.slice (some ⟨w7a.heap.size, 0, none⟩) 0 0) 0 [] (by rfl) ?_ b6 0 k c6 (fun q _ => .int .i64 (C.getD q 0)) (by rfl) ?_ (fun _ _ => rfl) (by omega) (by decide) ?_ ?_; go_must (focus first | exact ownsRow_blk (Blk.drew (blk_newO w7a _ _ rfl)) (Nat.le_refl _) | exact ownsRow_blk (Blk.drew ((blk_newO w7a _ _ rfl).alloc _)) (Nat.le_refl _)); go_loud (focus exact fun q j hq hj => HCa.out _ (by repeat' (first | (with_reducible exact Below.refl _ _) | (with_reducible assumption) | (with_reducible refine Below.alloc ?_ ?_ _) | (with_reducible refine Below.drew ?_) | (with_reducible refine Below.setCell ?_ ?_ _) | (with_reducible refine Below.stepB (by assumption) ?_ ?_) | go_size)) q j (by omega) hj); go_loud (focus first | omega | (simp; omega) | (simp; done)); intro v5b w5b hO5b hb5b hk5b; rw [Nat.zero_add, List.nil_append] at hO5b; obtain ⟨A5b, c5b, rfl⟩ := ownsRow_form hO5b; have hz5b := hb5b.size; (try simp at hz5b); (try (have hBf5b : Blk w5b (w7a.heap.size + 1) 3 #[.int .i64 0] := (hk5b _ (by first | (simp; done) | (simp; omega)) (by simp [Value.ownBlock])).trans (show Blk ((w7a.alloc (.cells #[] 3)).alloc (.cells #[.int .i64 0] 3)).drew (w7a.heap.size + 1) 3 #[.int .i64 0] from Blk.drew (blk_newO (w7a.alloc (.cells #[] 3)) _ _ (by simp))))); clear hk5b)
                      | (refine step_append_rowG (by rfl) _ _ 51 (by rfl) w7a.heap.size 3 i0 _ 1 8 Try.underlying51 hi0 hz0 hz1 hz2 (by rfl) (by decide) (.slice (some ⟨w7a.heap.size + 1, 0, none⟩) 0 0) 0 [] (by rfl) ?_ b6 0 k c6 (fun q _ => .int .i64 (C.getD q 0)) (by rfl) ?_ (fun _ _ => rfl) (by omega) (by decide) ?_ ?_; go_must (focus exact ownsRow_blk (Blk.drew (blk_newO _ _ _ (by simp))) (by omega)); go_loud (focus exact fun q j hq hj => HCa.out _ (by repeat' (first | (with_reducible exact Below.refl _ _) | (with_reducible assumption) | (with_reducible refine Below.alloc ?_ ?_ _) | (with_reducible refine Below.drew ?_) | (with_reducible refine Below.setCell ?_ ?_ _) | (with_reducible refine Below.stepB (by assumption) ?_ ?_) | go_size)) q j (by omega) hj); go_loud (focus first | omega | (simp; omega) | (simp; done)); intro v5b w5b hO5b hb5b hk5b; rw [Nat.zero_add, List.nil_append] at hO5b; obtain ⟨A5b, c5b, rfl⟩ := ownsRow_form hO5b; have hz5b := hb5b.size; (try simp at hz5b); (try (have hBf5b : Blk w5b w7a.heap.size 3 #[.int .i64 0] := (hk5b _ (by first | (simp; done) | (simp; omega)) (by simp [Value.ownBlock])).trans (show Blk ((w7a.alloc (.cells #[.int .i64 0] 3)).alloc (.cells #[] 3)).drew w7a.heap.size 3 #[.int .i64 0] from Blk.drew ((blk_newO w7a _ _ rfl).alloc _)))); clear hk5b)
                      | (refine step_append_rowG (by rfl) _ _ 51 (by rfl) w7a.heap.size 3 i0 _ 1 8 Try.underlying51 hi0 hz0 hz1 hz2 (by rfl) (by decide) _ k (flatG 1 (fun q _ => .int .i64 (C.getD q 0)) k) (by rfl) ?_ _ 0 1 1 (fun _ _ => .int .i64 0) (by rfl) ?_ (fun _ _ => rfl) (by omega) (by decide) ?_ ?_; go_loud (focus first | exact hO5b | exact ownsRow_below hO5b (Below.alloc (Below.refl _ _) (Nat.le_refl _) _)); go_loud (focus first | exact one_at0 hBf5b | exact one_at0 (blk_newO w5b _ _ rfl)); go_loud (focus first | omega | (simp; omega) | (simp; done)); intro v6b w6b hO6b hb6b hk6b; clear hk6b; obtain ⟨A6b, c6b, rfl⟩ := ownsRow_form hO6b; have hz6b := hb6b.size; (try simp at hz6b))
                      | (refine step_append_rowG (by rfl) _ _ 51 (by rfl) w7a.heap.size 3 i0 _ 1 8 Try.underlying51 hi0 hz0 hz1 hz2 (by rfl) (by decide) _ (k + 1) (flatG 1 (fun q _ => .int .i64 (C.getD q 0)) k ++ flatG 1 (fun _ _ => .int .i64 0) 1) (by rfl) ?_ b6 k (C.length - k) (c6 - k) (fun q _ => .int .i64 (C.getD (k + q) 0)) (by rfl) ?_ (fun _ _ => rfl) (by omega) (by decide) ?_ ?_; go_loud (focus exact hO6b); go_loud (focus (intro q j hq hj; (have h := HCa.out w6b (show Below w7a.heap.size w7a w6b from by repeat' (first | (with_reducible exact Below.refl _ _) | (with_reducible assumption) | (with_reducible refine Below.alloc ?_ ?_ _) | (with_reducible refine Below.drew ?_) | (with_reducible refine Below.setCell ?_ ?_ _) | (with_reducible refine Below.stepB (by assumption) ?_ ?_) | go_size)) (k + q) j (by omega) hj; rwa [show 0 + (k + q) * 1 + j = k + q * 1 + j by omega] at h))); go_loud (focus omega); intro v7b w7b hO7b hb7b hk7b; clear hk7b; have hz7b := hb7b.size))
                all_goals
                  have HBb := Lib.hid (show Below w7a.heap.size w7a w7b from by repeat' (first | (with_reducible exact Below.refl _ _) | (with_reducible assumption) | (with_reducible refine Below.alloc ?_ ?_ _) | (with_reducible refine Below.drew ?_) | (with_reducible refine Below.setCell ?_ ?_ _) | (with_reducible refine Below.stepB (by assumption) ?_ ?_) | go_size))
                  have HOb := Lib.hid (own_put (Value.int .i64) 0 (base' := w.heap.size) hO7b (by omega) (by omega) (by omega))
                  obtain ⟨b7b, c7b, rfl⟩ := ownsRow_pos HOb.out (Nat.succ_pos _)
                  have HPb := Lib.hid (ownsRow_below HOa.out HBb.out)
                  clear hO7b hb7b
                  have hw7b := HBb.out.size
                  obtain ⟨g1, g2, g3⟩ := ownsRow_get (k := k) (u := .int .i64 0) HOb.out (by omega) (by rw [List.getElem?_map, get_put (by omega)]; rfl)
                  have HR8 := Lib.hid (ownsRow_setOther (q := k) (u := .int .i64 1) HPb.out HOb.out (by decide))
                  have HR9 := Lib.hid (ownsRow_set (k := k) (u := .int .i64 1) HOb.out (by omega))
                  have HB9 := Lib.hid (ownsRow_lt HOb.out).1
                  go_wp2
                  go_roundw
                  case rel =>
                    refine ⟨i + 1, D.take k ++ s :: D.drop k, C.take k ++ 1 :: C.drop k, b7a, c7a, b7b, c7b, by omega, by go_num, by rw [put_len (by omega)], by rw [put_len (by omega)], by rw [put_len (by omega)]; omega, HNEW.out, ?_, ?_, ?_⟩
                    · rw [put_len (by omega)]
                      exact HR8.out
                    · have h := HR9.out
                      rw [← List.map_set, set_put (by omega)] at h
                      rw [put_len (by omega)]
                      exact h
                    · exact Below.setCell (HB3.out.trans ((HBa.out.trans (HBb.out.mono (by omega))).mono (by omega))) HB9.out _
                  case measure => simp [intOf]; omega
        · have HNEW : Hid (CntOk (· < ·) (lettN f (i + 1)) (D.take k ++ s :: D.drop k) (C.take k ++ 1 :: C.drop k)) := by
            have h := cnt_new ltS_irr ltS_tr hC.out hk HTA.out (fun h => absurd h hlk)
            rw [HE.out]
            exact h
          have hkn : ((k : Int) == (D.length : Int)) = true := by simp; omega
          have hkC : k ≤ C.length := by omega
          have hkD : k ≤ D.length := by omega
          have hkc5 : k ≤ c5 := by omega
          have hkc6 : k ≤ c6 := by omega
          have hDI := HDI.out
          go_wp2_with fail
          by_cases hck5 : c5 = k
          · by_cases hck6 : c6 = k
            · skip
              go_region_law (first
                    | (refine step_append_rowG (by rfl) _ _ 58 (by rfl) w3.heap.size 9 s0 _ 1 16 Try.underlying58 hs0 hy0 hy1 hy2 (by rfl) (by decide) (.slice (some ⟨w3.heap.size, 0, none⟩) 0 0) 0 [] (by rfl) ?_ b5 0 k k (fun q _ => .string ⟨(D.getD q []).toArray⟩) (by rfl) ?_ (fun _ _ => rfl) (by omega) (by decide) ?_ ?_; go_must (focus first | exact ownsRow_blk (Blk.drew (blk_newO w3 _ _ rfl)) (Nat.le_refl _) | exact ownsRow_blk (Blk.drew ((blk_newO w3 _ _ rfl).alloc _)) (Nat.le_refl _)); go_loud (focus exact fun q j hq hj => HCD.out _ (by repeat' (first | (with_reducible exact Below.refl _ _) | (with_reducible assumption) | (with_reducible refine Below.alloc ?_ ?_ _) | (with_reducible refine Below.drew ?_) | (with_reducible refine Below.setCell ?_ ?_ _) | (with_reducible refine Below.stepB (by assumption) ?_ ?_) | go_size)) q j (by omega) hj); go_loud (focus first | omega | (simp; omega) | (simp; done)); intro v5a w5a hO5a hb5a hk5a; rw [Nat.zero_add, List.nil_append] at hO5a; obtain ⟨A5a, c5a, rfl⟩ := ownsRow_form hO5a; have hz5a := hb5a.size; (try simp at hz5a); (try (have hBf5a : Blk w5a (w3.heap.size + 1) 9 #[.string ⟨s.toArray⟩] := (hk5a _ (by first | (simp; done) | (simp; omega)) (by simp [Value.ownBlock])).trans (show Blk ((w3.alloc (.cells #[] 9)).alloc (.cells #[.string ⟨s.toArray⟩] 9)).drew (w3.heap.size + 1) 9 #[.string ⟨s.toArray⟩] from Blk.drew (blk_newO (w3.alloc (.cells #[] 9)) _ _ (by simp))))); clear hk5a)
                    | (refine step_append_rowG (by rfl) _ _ 58 (by rfl) w3.heap.size 9 s0 _ 1 16 Try.underlying58 hs0 hy0 hy1 hy2 (by rfl) (by decide) (.slice (some ⟨w3.heap.size + 1, 0, none⟩) 0 0) 0 [] (by rfl) ?_ b5 0 k k (fun q _ => .string ⟨(D.getD q []).toArray⟩) (by rfl) ?_ (fun _ _ => rfl) (by omega) (by decide) ?_ ?_; go_must (focus exact ownsRow_blk (Blk.drew (blk_newO _ _ _ (by simp))) (by omega)); go_loud (focus exact fun q j hq hj => HCD.out _ (by repeat' (first | (with_reducible exact Below.refl _ _) | (with_reducible assumption) | (with_reducible refine Below.alloc ?_ ?_ _) | (with_reducible refine Below.drew ?_) | (with_reducible refine Below.setCell ?_ ?_ _) | (with_reducible refine Below.stepB (by assumption) ?_ ?_) | go_size)) q j (by omega) hj); go_loud (focus first | omega | (simp; omega) | (simp; done)); intro v5a w5a hO5a hb5a hk5a; rw [Nat.zero_add, List.nil_append] at hO5a; obtain ⟨A5a, c5a, rfl⟩ := ownsRow_form hO5a; have hz5a := hb5a.size; (try simp at hz5a); (try (have hBf5a : Blk w5a w3.heap.size 9 #[.string ⟨s.toArray⟩] := (hk5a _ (by first | (simp; done) | (simp; omega)) (by simp [Value.ownBlock])).trans (show Blk ((w3.alloc (.cells #[.string ⟨s.toArray⟩] 9)).alloc (.cells #[] 9)).drew w3.heap.size 9 #[.string ⟨s.toArray⟩] from Blk.drew ((blk_newO w3 _ _ rfl).alloc _)))); clear hk5a)
                    | (refine step_append_rowG (by rfl) _ _ 58 (by rfl) w3.heap.size 9 s0 _ 1 16 Try.underlying58 hs0 hy0 hy1 hy2 (by rfl) (by decide) _ k (flatG 1 (fun q _ => .string ⟨(D.getD q []).toArray⟩) k) (by rfl) ?_ _ 0 1 1 (fun _ _ => .string ⟨s.toArray⟩) (by rfl) ?_ (fun _ _ => rfl) (by omega) (by decide) ?_ ?_; go_loud (focus first | exact hO5a | exact ownsRow_below hO5a (Below.alloc (Below.refl _ _) (Nat.le_refl _) _)); go_loud (focus first | exact one_at0 hBf5a | exact one_at0 (blk_newO w5a _ _ rfl)); go_loud (focus first | omega | (simp; omega) | (simp; done)); intro v6a w6a hO6a hb6a hk6a; clear hk6a; obtain ⟨A6a, c6a, rfl⟩ := ownsRow_form hO6a; have hz6a := hb6a.size; (try simp at hz6a))
                    | (refine step_append_rowG (by rfl) _ _ 58 (by rfl) w3.heap.size 9 s0 _ 1 16 Try.underlying58 hs0 hy0 hy1 hy2 (by rfl) (by decide) _ (k + 1) (flatG 1 (fun q _ => .string ⟨(D.getD q []).toArray⟩) k ++ flatG 1 (fun _ _ => .string ⟨s.toArray⟩) 1) (by rfl) ?_ b5 0 (D.length - k) _ (fun q _ => .string ⟨(D.getD (k + q) []).toArray⟩) (by rfl) ?_ (fun _ _ => rfl) (by omega) (by decide) ?_ ?_; go_loud (focus exact hO6a); go_loud (focus (intro q j hq hj; exact absurd hq (by omega))); go_loud (focus omega); intro v7a w7a hO7a hb7a hk7a; clear hk7a; have hz7a := hb7a.size))
              all_goals
                have HBa := Lib.hid (show Below w3.heap.size w3 w7a from by repeat' (first | (with_reducible exact Below.refl _ _) | (with_reducible assumption) | (with_reducible refine Below.alloc ?_ ?_ _) | (with_reducible refine Below.drew ?_) | (with_reducible refine Below.setCell ?_ ?_ _) | (with_reducible refine Below.stepB (by assumption) ?_ ?_) | go_size))
                have HOa := Lib.hid (own_put strV [] (base' := w.heap.size) hO7a (by omega) (by omega) (by omega))
                obtain ⟨b7a, c7a, rfl⟩ := ownsRow_pos HOa.out (Nat.succ_pos _)
                have HPa := Lib.hid (ownsRow_below hP6.out HBa.out)
                clear hO7a hb7a
                have hw3a := HBa.out.size
                have HCa := Lib.hid (fun (W : World) (hb : Below w7a.heap.size w7a W) => HCC.out W (HBa.out.trans (hb.mono hw3a)))
                go_wp2_with fail
                go_region_law (first
                      | (refine step_append_rowG (by rfl) _ _ 51 (by rfl) w7a.heap.size 3 i0 _ 1 8 Try.underlying51 hi0 hz0 hz1 hz2 (by rfl) (by decide) (.slice (some ⟨w7a.heap.size, 0, none⟩) 0 0) 0 [] (by rfl) ?_ b6 0 k k (fun q _ => .int .i64 (C.getD q 0)) (by rfl) ?_ (fun _ _ => rfl) (by omega) (by decide) ?_ ?_; go_must (focus first | exact ownsRow_blk (Blk.drew (blk_newO w7a _ _ rfl)) (Nat.le_refl _) | exact ownsRow_blk (Blk.drew ((blk_newO w7a _ _ rfl).alloc _)) (Nat.le_refl _)); go_loud (focus exact fun q j hq hj => HCa.out _ (by repeat' (first | (with_reducible exact Below.refl _ _) | (with_reducible assumption) | (with_reducible refine Below.alloc ?_ ?_ _) | (with_reducible refine Below.drew ?_) | (with_reducible refine Below.setCell ?_ ?_ _) | (with_reducible refine Below.stepB (by assumption) ?_ ?_) | go_size)) q j (by omega) hj); go_loud (focus first | omega | (simp; omega) | (simp; done)); intro v5b w5b hO5b hb5b hk5b; rw [Nat.zero_add, List.nil_append] at hO5b; obtain ⟨A5b, c5b, rfl⟩ := ownsRow_form hO5b; have hz5b := hb5b.size; (try simp at hz5b); (try (have hBf5b : Blk w5b (w7a.heap.size + 1) 3 #[.int .i64 0] := (hk5b _ (by first | (simp; done) | (simp; omega)) (by simp [Value.ownBlock])).trans (show Blk ((w7a.alloc (.cells #[] 3)).alloc (.cells #[.int .i64 0] 3)).drew (w7a.heap.size + 1) 3 #[.int .i64 0] from Blk.drew (blk_newO (w7a.alloc (.cells #[] 3)) _ _ (by simp))))); clear hk5b)
                      | (refine step_append_rowG (by rfl) _ _ 51 (by rfl) w7a.heap.size 3 i0 _ 1 8 Try.underlying51 hi0 hz0 hz1 hz2 (by rfl) (by decide) (.slice (some ⟨w7a.heap.size + 1, 0, none⟩) 0 0) 0 [] (by rfl) ?_ b6 0 k k (fun q _ => .int .i64 (C.getD q 0)) (by rfl) ?_ (fun _ _ => rfl) (by omega) (by decide) ?_ ?_; go_must (focus exact ownsRow_blk (Blk.drew (blk_newO _ _ _ (by simp))) (by omega)); go_loud (focus exact fun q j hq hj => HCa.out _ (by repeat' (first | (with_reducible exact Below.refl _ _) | (with_reducible assumption) | (with_reducible refine Below.alloc ?_ ?_ _) | (with_reducible refine Below.drew ?_) | (with_reducible refine Below.setCell ?_ ?_ _) | (with_reducible refine Below.stepB (by assumption) ?_ ?_) | go_size)) q j (by omega) hj); go_loud (focus first | omega | (simp; omega) | (simp; done)); intro v5b w5b hO5b hb5b hk5b; rw [Nat.zero_add, List.nil_append] at hO5b; obtain ⟨A5b, c5b, rfl⟩ := ownsRow_form hO5b; have hz5b := hb5b.size; (try simp at hz5b); (try (have hBf5b : Blk w5b w7a.heap.size 3 #[.int .i64 0] := (hk5b _ (by first | (simp; done) | (simp; omega)) (by simp [Value.ownBlock])).trans (show Blk ((w7a.alloc (.cells #[.int .i64 0] 3)).alloc (.cells #[] 3)).drew w7a.heap.size 3 #[.int .i64 0] from Blk.drew ((blk_newO w7a _ _ rfl).alloc _)))); clear hk5b)
                      | (refine step_append_rowG (by rfl) _ _ 51 (by rfl) w7a.heap.size 3 i0 _ 1 8 Try.underlying51 hi0 hz0 hz1 hz2 (by rfl) (by decide) _ k (flatG 1 (fun q _ => .int .i64 (C.getD q 0)) k) (by rfl) ?_ _ 0 1 1 (fun _ _ => .int .i64 0) (by rfl) ?_ (fun _ _ => rfl) (by omega) (by decide) ?_ ?_; go_loud (focus first | exact hO5b | exact ownsRow_below hO5b (Below.alloc (Below.refl _ _) (Nat.le_refl _) _)); go_loud (focus first | exact one_at0 hBf5b | exact one_at0 (blk_newO w5b _ _ rfl)); go_loud (focus first | omega | (simp; omega) | (simp; done)); intro v6b w6b hO6b hb6b hk6b; clear hk6b; obtain ⟨A6b, c6b, rfl⟩ := ownsRow_form hO6b; have hz6b := hb6b.size; (try simp at hz6b))
                      | (refine step_append_rowG (by rfl) _ _ 51 (by rfl) w7a.heap.size 3 i0 _ 1 8 Try.underlying51 hi0 hz0 hz1 hz2 (by rfl) (by decide) _ (k + 1) (flatG 1 (fun q _ => .int .i64 (C.getD q 0)) k ++ flatG 1 (fun _ _ => .int .i64 0) 1) (by rfl) ?_ b6 0 (C.length - k) _ (fun q _ => .int .i64 (C.getD (k + q) 0)) (by rfl) ?_ (fun _ _ => rfl) (by omega) (by decide) ?_ ?_; go_loud (focus exact hO6b); go_loud (focus (intro q j hq hj; exact absurd hq (by omega))); go_loud (focus omega); intro v7b w7b hO7b hb7b hk7b; clear hk7b; have hz7b := hb7b.size))
                all_goals
                  have HBb := Lib.hid (show Below w7a.heap.size w7a w7b from by repeat' (first | (with_reducible exact Below.refl _ _) | (with_reducible assumption) | (with_reducible refine Below.alloc ?_ ?_ _) | (with_reducible refine Below.drew ?_) | (with_reducible refine Below.setCell ?_ ?_ _) | (with_reducible refine Below.stepB (by assumption) ?_ ?_) | go_size))
                  have HOb := Lib.hid (own_put (Value.int .i64) 0 (base' := w.heap.size) hO7b (by omega) (by omega) (by omega))
                  obtain ⟨b7b, c7b, rfl⟩ := ownsRow_pos HOb.out (Nat.succ_pos _)
                  have HPb := Lib.hid (ownsRow_below HOa.out HBb.out)
                  clear hO7b hb7b
                  have hw7b := HBb.out.size
                  obtain ⟨g1, g2, g3⟩ := ownsRow_get (k := k) (u := .int .i64 0) HOb.out (by omega) (by rw [List.getElem?_map, get_put (by omega)]; rfl)
                  have HR8 := Lib.hid (ownsRow_setOther (q := k) (u := .int .i64 1) HPb.out HOb.out (by decide))
                  have HR9 := Lib.hid (ownsRow_set (k := k) (u := .int .i64 1) HOb.out (by omega))
                  have HB9 := Lib.hid (ownsRow_lt HOb.out).1
                  go_wp2
                  go_roundw
                  case rel =>
                    refine ⟨i + 1, D.take k ++ s :: D.drop k, C.take k ++ 1 :: C.drop k, b7a, c7a, b7b, c7b, by omega, by go_num, by rw [put_len (by omega)], by rw [put_len (by omega)], by rw [put_len (by omega)]; omega, HNEW.out, ?_, ?_, ?_⟩
                    · rw [put_len (by omega)]
                      exact HR8.out
                    · have h := HR9.out
                      rw [← List.map_set, set_put (by omega)] at h
                      rw [put_len (by omega)]
                      exact h
                    · exact Below.setCell (HB3.out.trans ((HBa.out.trans (HBb.out.mono (by omega))).mono (by omega))) HB9.out _
                  case measure => simp [intOf]; omega
            · skip
              go_region_law (first
                    | (refine step_append_rowG (by rfl) _ _ 58 (by rfl) w3.heap.size 9 s0 _ 1 16 Try.underlying58 hs0 hy0 hy1 hy2 (by rfl) (by decide) (.slice (some ⟨w3.heap.size, 0, none⟩) 0 0) 0 [] (by rfl) ?_ b5 0 k k (fun q _ => .string ⟨(D.getD q []).toArray⟩) (by rfl) ?_ (fun _ _ => rfl) (by omega) (by decide) ?_ ?_; go_must (focus first | exact ownsRow_blk (Blk.drew (blk_newO w3 _ _ rfl)) (Nat.le_refl _) | exact ownsRow_blk (Blk.drew ((blk_newO w3 _ _ rfl).alloc _)) (Nat.le_refl _)); go_loud (focus exact fun q j hq hj => HCD.out _ (by repeat' (first | (with_reducible exact Below.refl _ _) | (with_reducible assumption) | (with_reducible refine Below.alloc ?_ ?_ _) | (with_reducible refine Below.drew ?_) | (with_reducible refine Below.setCell ?_ ?_ _) | (with_reducible refine Below.stepB (by assumption) ?_ ?_) | go_size)) q j (by omega) hj); go_loud (focus first | omega | (simp; omega) | (simp; done)); intro v5a w5a hO5a hb5a hk5a; rw [Nat.zero_add, List.nil_append] at hO5a; obtain ⟨A5a, c5a, rfl⟩ := ownsRow_form hO5a; have hz5a := hb5a.size; (try simp at hz5a); (try (have hBf5a : Blk w5a (w3.heap.size + 1) 9 #[.string ⟨s.toArray⟩] := (hk5a _ (by first | (simp; done) | (simp; omega)) (by simp [Value.ownBlock])).trans (show Blk ((w3.alloc (.cells #[] 9)).alloc (.cells #[.string ⟨s.toArray⟩] 9)).drew (w3.heap.size + 1) 9 #[.string ⟨s.toArray⟩] from Blk.drew (blk_newO (w3.alloc (.cells #[] 9)) _ _ (by simp))))); clear hk5a)
                    | (refine step_append_rowG (by rfl) _ _ 58 (by rfl) w3.heap.size 9 s0 _ 1 16 Try.underlying58 hs0 hy0 hy1 hy2 (by rfl) (by decide) (.slice (some ⟨w3.heap.size + 1, 0, none⟩) 0 0) 0 [] (by rfl) ?_ b5 0 k k (fun q _ => .string ⟨(D.getD q []).toArray⟩) (by rfl) ?_ (fun _ _ => rfl) (by omega) (by decide) ?_ ?_; go_must (focus exact ownsRow_blk (Blk.drew (blk_newO _ _ _ (by simp))) (by omega)); go_loud (focus exact fun q j hq hj => HCD.out _ (by repeat' (first | (with_reducible exact Below.refl _ _) | (with_reducible assumption) | (with_reducible refine Below.alloc ?_ ?_ _) | (with_reducible refine Below.drew ?_) | (with_reducible refine Below.setCell ?_ ?_ _) | (with_reducible refine Below.stepB (by assumption) ?_ ?_) | go_size)) q j (by omega) hj); go_loud (focus first | omega | (simp; omega) | (simp; done)); intro v5a w5a hO5a hb5a hk5a; rw [Nat.zero_add, List.nil_append] at hO5a; obtain ⟨A5a, c5a, rfl⟩ := ownsRow_form hO5a; have hz5a := hb5a.size; (try simp at hz5a); (try (have hBf5a : Blk w5a w3.heap.size 9 #[.string ⟨s.toArray⟩] := (hk5a _ (by first | (simp; done) | (simp; omega)) (by simp [Value.ownBlock])).trans (show Blk ((w3.alloc (.cells #[.string ⟨s.toArray⟩] 9)).alloc (.cells #[] 9)).drew w3.heap.size 9 #[.string ⟨s.toArray⟩] from Blk.drew ((blk_newO w3 _ _ rfl).alloc _)))); clear hk5a)
                    | (refine step_append_rowG (by rfl) _ _ 58 (by rfl) w3.heap.size 9 s0 _ 1 16 Try.underlying58 hs0 hy0 hy1 hy2 (by rfl) (by decide) _ k (flatG 1 (fun q _ => .string ⟨(D.getD q []).toArray⟩) k) (by rfl) ?_ _ 0 1 1 (fun _ _ => .string ⟨s.toArray⟩) (by rfl) ?_ (fun _ _ => rfl) (by omega) (by decide) ?_ ?_; go_loud (focus first | exact hO5a | exact ownsRow_below hO5a (Below.alloc (Below.refl _ _) (Nat.le_refl _) _)); go_loud (focus first | exact one_at0 hBf5a | exact one_at0 (blk_newO w5a _ _ rfl)); go_loud (focus first | omega | (simp; omega) | (simp; done)); intro v6a w6a hO6a hb6a hk6a; clear hk6a; obtain ⟨A6a, c6a, rfl⟩ := ownsRow_form hO6a; have hz6a := hb6a.size; (try simp at hz6a))
                    | (refine step_append_rowG (by rfl) _ _ 58 (by rfl) w3.heap.size 9 s0 _ 1 16 Try.underlying58 hs0 hy0 hy1 hy2 (by rfl) (by decide) _ (k + 1) (flatG 1 (fun q _ => .string ⟨(D.getD q []).toArray⟩) k ++ flatG 1 (fun _ _ => .string ⟨s.toArray⟩) 1) (by rfl) ?_ b5 0 (D.length - k) _ (fun q _ => .string ⟨(D.getD (k + q) []).toArray⟩) (by rfl) ?_ (fun _ _ => rfl) (by omega) (by decide) ?_ ?_; go_loud (focus exact hO6a); go_loud (focus (intro q j hq hj; exact absurd hq (by omega))); go_loud (focus omega); intro v7a w7a hO7a hb7a hk7a; clear hk7a; have hz7a := hb7a.size))
              all_goals
                have HBa := Lib.hid (show Below w3.heap.size w3 w7a from by repeat' (first | (with_reducible exact Below.refl _ _) | (with_reducible assumption) | (with_reducible refine Below.alloc ?_ ?_ _) | (with_reducible refine Below.drew ?_) | (with_reducible refine Below.setCell ?_ ?_ _) | (with_reducible refine Below.stepB (by assumption) ?_ ?_) | go_size))
                have HOa := Lib.hid (own_put strV [] (base' := w.heap.size) hO7a (by omega) (by omega) (by omega))
                obtain ⟨b7a, c7a, rfl⟩ := ownsRow_pos HOa.out (Nat.succ_pos _)
                have HPa := Lib.hid (ownsRow_below hP6.out HBa.out)
                clear hO7a hb7a
                have hw3a := HBa.out.size
                have HCa := Lib.hid (fun (W : World) (hb : Below w7a.heap.size w7a W) => HCC.out W (HBa.out.trans (hb.mono hw3a)))
                go_wp2_with fail
                go_region_law (first
                      | (refine step_append_rowG (by rfl) _ _ 51 (by rfl) w7a.heap.size 3 i0 _ 1 8 Try.underlying51 hi0 hz0 hz1 hz2 (by rfl) (by decide) (.slice (some ⟨w7a.heap.size, 0, none⟩) 0 0) 0 [] (by rfl) ?_ b6 0 k c6 (fun q _ => .int .i64 (C.getD q 0)) (by rfl) ?_ (fun _ _ => rfl) (by omega) (by decide) ?_ ?_; go_must (focus first | exact ownsRow_blk (Blk.drew (blk_newO w7a _ _ rfl)) (Nat.le_refl _) | exact ownsRow_blk (Blk.drew ((blk_newO w7a _ _ rfl).alloc _)) (Nat.le_refl _)); go_loud (focus exact fun q j hq hj => HCa.out _ (by repeat' (first | (with_reducible exact Below.refl _ _) | (with_reducible assumption) | (with_reducible refine Below.alloc ?_ ?_ _) | (with_reducible refine Below.drew ?_) | (with_reducible refine Below.setCell ?_ ?_ _) | (with_reducible refine Below.stepB (by assumption) ?_ ?_) | go_size)) q j (by omega) hj); go_loud (focus first | omega | (simp; omega) | (simp; done)); intro v5b w5b hO5b hb5b hk5b; rw [Nat.zero_add, List.nil_append] at hO5b; obtain ⟨A5b, c5b, rfl⟩ := ownsRow_form hO5b; have hz5b := hb5b.size; (try simp at hz5b); (try (have hBf5b : Blk w5b (w7a.heap.size + 1) 3 #[.int .i64 0] := (hk5b _ (by first | (simp; done) | (simp; omega)) (by simp [Value.ownBlock])).trans (show Blk ((w7a.alloc (.cells #[] 3)).alloc (.cells #[.int .i64 0] 3)).drew (w7a.heap.size + 1) 3 #[.int .i64 0] from Blk.drew (blk_newO (w7a.alloc (.cells #[] 3)) _ _ (by simp))))); clear hk5b)
                      | (refine step_append_rowG (by rfl) _ _ 51 (by rfl) w7a.heap.size 3 i0 _ 1 8 Try.underlying51 hi0 hz0 hz1 hz2 (by rfl) (by decide) (.slice (some ⟨w7a.heap.size + 1, 0, none⟩) 0 0) 0 [] (by rfl) ?_ b6 0 k c6 (fun q _ => .int .i64 (C.getD q 0)) (by rfl) ?_ (fun _ _ => rfl) (by omega) (by decide) ?_ ?_; go_must (focus exact ownsRow_blk (Blk.drew (blk_newO _ _ _ (by simp))) (by omega)); go_loud (focus exact fun q j hq hj => HCa.out _ (by repeat' (first | (with_reducible exact Below.refl _ _) | (with_reducible assumption) | (with_reducible refine Below.alloc ?_ ?_ _) | (with_reducible refine Below.drew ?_) | (with_reducible refine Below.setCell ?_ ?_ _) | (with_reducible refine Below.stepB (by assumption) ?_ ?_) | go_size)) q j (by omega) hj); go_loud (focus first | omega | (simp; omega) | (simp; done)); intro v5b w5b hO5b hb5b hk5b; rw [Nat.zero_add, List.nil_append] at hO5b; obtain ⟨A5b, c5b, rfl⟩ := ownsRow_form hO5b; have hz5b := hb5b.size; (try simp at hz5b); (try (have hBf5b : Blk w5b w7a.heap.size 3 #[.int .i64 0] := (hk5b _ (by first | (simp; done) | (simp; omega)) (by simp [Value.ownBlock])).trans (show Blk ((w7a.alloc (.cells #[.int .i64 0] 3)).alloc (.cells #[] 3)).drew w7a.heap.size 3 #[.int .i64 0] from Blk.drew ((blk_newO w7a _ _ rfl).alloc _)))); clear hk5b)
                      | (refine step_append_rowG (by rfl) _ _ 51 (by rfl) w7a.heap.size 3 i0 _ 1 8 Try.underlying51 hi0 hz0 hz1 hz2 (by rfl) (by decide) _ k (flatG 1 (fun q _ => .int .i64 (C.getD q 0)) k) (by rfl) ?_ _ 0 1 1 (fun _ _ => .int .i64 0) (by rfl) ?_ (fun _ _ => rfl) (by omega) (by decide) ?_ ?_; go_loud (focus first | exact hO5b | exact ownsRow_below hO5b (Below.alloc (Below.refl _ _) (Nat.le_refl _) _)); go_loud (focus first | exact one_at0 hBf5b | exact one_at0 (blk_newO w5b _ _ rfl)); go_loud (focus first | omega | (simp; omega) | (simp; done)); intro v6b w6b hO6b hb6b hk6b; clear hk6b; obtain ⟨A6b, c6b, rfl⟩ := ownsRow_form hO6b; have hz6b := hb6b.size; (try simp at hz6b))
                      | (refine step_append_rowG (by rfl) _ _ 51 (by rfl) w7a.heap.size 3 i0 _ 1 8 Try.underlying51 hi0 hz0 hz1 hz2 (by rfl) (by decide) _ (k + 1) (flatG 1 (fun q _ => .int .i64 (C.getD q 0)) k ++ flatG 1 (fun _ _ => .int .i64 0) 1) (by rfl) ?_ b6 k (C.length - k) (c6 - k) (fun q _ => .int .i64 (C.getD (k + q) 0)) (by rfl) ?_ (fun _ _ => rfl) (by omega) (by decide) ?_ ?_; go_loud (focus exact hO6b); go_loud (focus (intro q j hq hj; exact absurd hq (by omega))); go_loud (focus omega); intro v7b w7b hO7b hb7b hk7b; clear hk7b; have hz7b := hb7b.size))
                all_goals
                  have HBb := Lib.hid (show Below w7a.heap.size w7a w7b from by repeat' (first | (with_reducible exact Below.refl _ _) | (with_reducible assumption) | (with_reducible refine Below.alloc ?_ ?_ _) | (with_reducible refine Below.drew ?_) | (with_reducible refine Below.setCell ?_ ?_ _) | (with_reducible refine Below.stepB (by assumption) ?_ ?_) | go_size))
                  have HOb := Lib.hid (own_put (Value.int .i64) 0 (base' := w.heap.size) hO7b (by omega) (by omega) (by omega))
                  obtain ⟨b7b, c7b, rfl⟩ := ownsRow_pos HOb.out (Nat.succ_pos _)
                  have HPb := Lib.hid (ownsRow_below HOa.out HBb.out)
                  clear hO7b hb7b
                  have hw7b := HBb.out.size
                  obtain ⟨g1, g2, g3⟩ := ownsRow_get (k := k) (u := .int .i64 0) HOb.out (by omega) (by rw [List.getElem?_map, get_put (by omega)]; rfl)
                  have HR8 := Lib.hid (ownsRow_setOther (q := k) (u := .int .i64 1) HPb.out HOb.out (by decide))
                  have HR9 := Lib.hid (ownsRow_set (k := k) (u := .int .i64 1) HOb.out (by omega))
                  have HB9 := Lib.hid (ownsRow_lt HOb.out).1
                  go_wp2
                  go_roundw
                  case rel =>
                    refine ⟨i + 1, D.take k ++ s :: D.drop k, C.take k ++ 1 :: C.drop k, b7a, c7a, b7b, c7b, by omega, by go_num, by rw [put_len (by omega)], by rw [put_len (by omega)], by rw [put_len (by omega)]; omega, HNEW.out, ?_, ?_, ?_⟩
                    · rw [put_len (by omega)]
                      exact HR8.out
                    · have h := HR9.out
                      rw [← List.map_set, set_put (by omega)] at h
                      rw [put_len (by omega)]
                      exact h
                    · exact Below.setCell (HB3.out.trans ((HBa.out.trans (HBb.out.mono (by omega))).mono (by omega))) HB9.out _
                  case measure => simp [intOf]; omega
          · by_cases hck6 : c6 = k
            · skip
              go_region_law (first
                    | (refine step_append_rowG (by rfl) _ _ 58 (by rfl) w3.heap.size 9 s0 _ 1 16 Try.underlying58 hs0 hy0 hy1 hy2 (by rfl) (by decide) (.slice (some ⟨w3.heap.size, 0, none⟩) 0 0) 0 [] (by rfl) ?_ b5 0 k c5 (fun q _ => .string ⟨(D.getD q []).toArray⟩) (by rfl) ?_ (fun _ _ => rfl) (by omega) (by decide) ?_ ?_; go_must (focus first | exact ownsRow_blk (Blk.drew (blk_newO w3 _ _ rfl)) (Nat.le_refl _) | exact ownsRow_blk (Blk.drew ((blk_newO w3 _ _ rfl).alloc _)) (Nat.le_refl _)); go_loud (focus exact fun q j hq hj => HCD.out _ (by repeat' (first | (with_reducible exact Below.refl _ _) | (with_reducible assumption) | (with_reducible refine Below.alloc ?_ ?_ _) | (with_reducible refine Below.drew ?_) | (with_reducible refine Below.setCell ?_ ?_ _) | (with_reducible refine Below.stepB (by assumption) ?_ ?_) | go_size)) q j (by omega) hj); go_loud (focus first | omega | (simp; omega) | (simp; done)); intro v5a w5a hO5a hb5a hk5a; rw [Nat.zero_add, List.nil_append] at hO5a; obtain ⟨A5a, c5a, rfl⟩ := ownsRow_form hO5a; have hz5a := hb5a.size; (try simp at hz5a); (try (have hBf5a : Blk w5a (w3.heap.size + 1) 9 #[.string ⟨s.toArray⟩] := (hk5a _ (by first | (simp; done) | (simp; omega)) (by simp [Value.ownBlock])).trans (show Blk ((w3.alloc (.cells #[] 9)).alloc (.cells #[.string ⟨s.toArray⟩] 9)).drew (w3.heap.size + 1) 9 #[.string ⟨s.toArray⟩] from Blk.drew (blk_newO (w3.alloc (.cells #[] 9)) _ _ (by simp))))); clear hk5a)
                    | (refine step_append_rowG (by rfl) _ _ 58 (by rfl) w3.heap.size 9 s0 _ 1 16 Try.underlying58 hs0 hy0 hy1 hy2 (by rfl) (by decide) (.slice (some ⟨w3.heap.size + 1, 0, none⟩) 0 0) 0 [] (by rfl) ?_ b5 0 k c5 (fun q _ => .string ⟨(D.getD q []).toArray⟩) (by rfl) ?_ (fun _ _ => rfl) (by omega) (by decide) ?_ ?_; go_must (focus exact ownsRow_blk (Blk.drew (blk_newO _ _ _ (by simp))) (by omega)); go_loud (focus exact fun q j hq hj => HCD.out _ (by repeat' (first | (with_reducible exact Below.refl _ _) | (with_reducible assumption) | (with_reducible refine Below.alloc ?_ ?_ _) | (with_reducible refine Below.drew ?_) | (with_reducible refine Below.setCell ?_ ?_ _) | (with_reducible refine Below.stepB (by assumption) ?_ ?_) | go_size)) q j (by omega) hj); go_loud (focus first | omega | (simp; omega) | (simp; done)); intro v5a w5a hO5a hb5a hk5a; rw [Nat.zero_add, List.nil_append] at hO5a; obtain ⟨A5a, c5a, rfl⟩ := ownsRow_form hO5a; have hz5a := hb5a.size; (try simp at hz5a); (try (have hBf5a : Blk w5a w3.heap.size 9 #[.string ⟨s.toArray⟩] := (hk5a _ (by first | (simp; done) | (simp; omega)) (by simp [Value.ownBlock])).trans (show Blk ((w3.alloc (.cells #[.string ⟨s.toArray⟩] 9)).alloc (.cells #[] 9)).drew w3.heap.size 9 #[.string ⟨s.toArray⟩] from Blk.drew ((blk_newO w3 _ _ rfl).alloc _)))); clear hk5a)
                    | (refine step_append_rowG (by rfl) _ _ 58 (by rfl) w3.heap.size 9 s0 _ 1 16 Try.underlying58 hs0 hy0 hy1 hy2 (by rfl) (by decide) _ k (flatG 1 (fun q _ => .string ⟨(D.getD q []).toArray⟩) k) (by rfl) ?_ _ 0 1 1 (fun _ _ => .string ⟨s.toArray⟩) (by rfl) ?_ (fun _ _ => rfl) (by omega) (by decide) ?_ ?_; go_loud (focus first | exact hO5a | exact ownsRow_below hO5a (Below.alloc (Below.refl _ _) (Nat.le_refl _) _)); go_loud (focus first | exact one_at0 hBf5a | exact one_at0 (blk_newO w5a _ _ rfl)); go_loud (focus first | omega | (simp; omega) | (simp; done)); intro v6a w6a hO6a hb6a hk6a; clear hk6a; obtain ⟨A6a, c6a, rfl⟩ := ownsRow_form hO6a; have hz6a := hb6a.size; (try simp at hz6a))
                    | (refine step_append_rowG (by rfl) _ _ 58 (by rfl) w3.heap.size 9 s0 _ 1 16 Try.underlying58 hs0 hy0 hy1 hy2 (by rfl) (by decide) _ (k + 1) (flatG 1 (fun q _ => .string ⟨(D.getD q []).toArray⟩) k ++ flatG 1 (fun _ _ => .string ⟨s.toArray⟩) 1) (by rfl) ?_ b5 k (D.length - k) (c5 - k) (fun q _ => .string ⟨(D.getD (k + q) []).toArray⟩) (by rfl) ?_ (fun _ _ => rfl) (by omega) (by decide) ?_ ?_; go_loud (focus exact hO6a); go_loud (focus (intro q j hq hj; exact absurd hq (by omega))); go_loud (focus omega); intro v7a w7a hO7a hb7a hk7a; clear hk7a; have hz7a := hb7a.size))
              all_goals
                have HBa := Lib.hid (show Below w3.heap.size w3 w7a from by repeat' (first | (with_reducible exact Below.refl _ _) | (with_reducible assumption) | (with_reducible refine Below.alloc ?_ ?_ _) | (with_reducible refine Below.drew ?_) | (with_reducible refine Below.setCell ?_ ?_ _) | (with_reducible refine Below.stepB (by assumption) ?_ ?_) | go_size))
                have HOa := Lib.hid (own_put strV [] (base' := w.heap.size) hO7a (by omega) (by omega) (by omega))
                obtain ⟨b7a, c7a, rfl⟩ := ownsRow_pos HOa.out (Nat.succ_pos _)
                have HPa := Lib.hid (ownsRow_below hP6.out HBa.out)
                clear hO7a hb7a
                have hw3a := HBa.out.size
                have HCa := Lib.hid (fun (W : World) (hb : Below w7a.heap.size w7a W) => HCC.out W (HBa.out.trans (hb.mono hw3a)))
                go_wp2_with fail
                go_region_law (first
                      | (refine step_append_rowG (by rfl) _ _ 51 (by rfl) w7a.heap.size 3 i0 _ 1 8 Try.underlying51 hi0 hz0 hz1 hz2 (by rfl) (by decide) (.slice (some ⟨w7a.heap.size, 0, none⟩) 0 0) 0 [] (by rfl) ?_ b6 0 k k (fun q _ => .int .i64 (C.getD q 0)) (by rfl) ?_ (fun _ _ => rfl) (by omega) (by decide) ?_ ?_; go_must (focus first | exact ownsRow_blk (Blk.drew (blk_newO w7a _ _ rfl)) (Nat.le_refl _) | exact ownsRow_blk (Blk.drew ((blk_newO w7a _ _ rfl).alloc _)) (Nat.le_refl _)); go_loud (focus exact fun q j hq hj => HCa.out _ (by repeat' (first | (with_reducible exact Below.refl _ _) | (with_reducible assumption) | (with_reducible refine Below.alloc ?_ ?_ _) | (with_reducible refine Below.drew ?_) | (with_reducible refine Below.setCell ?_ ?_ _) | (with_reducible refine Below.stepB (by assumption) ?_ ?_) | go_size)) q j (by omega) hj); go_loud (focus first | omega | (simp; omega) | (simp; done)); intro v5b w5b hO5b hb5b hk5b; rw [Nat.zero_add, List.nil_append] at hO5b; obtain ⟨A5b, c5b, rfl⟩ := ownsRow_form hO5b; have hz5b := hb5b.size; (try simp at hz5b); (try (have hBf5b : Blk w5b (w7a.heap.size + 1) 3 #[.int .i64 0] := (hk5b _ (by first | (simp; done) | (simp; omega)) (by simp [Value.ownBlock])).trans (show Blk ((w7a.alloc (.cells #[] 3)).alloc (.cells #[.int .i64 0] 3)).drew (w7a.heap.size + 1) 3 #[.int .i64 0] from Blk.drew (blk_newO (w7a.alloc (.cells #[] 3)) _ _ (by simp))))); clear hk5b)
                      | (refine step_append_rowG (by rfl) _ _ 51 (by rfl) w7a.heap.size 3 i0 _ 1 8 Try.underlying51 hi0 hz0 hz1 hz2 (by rfl) (by decide) (.slice (some ⟨w7a.heap.size + 1, 0, none⟩) 0 0) 0 [] (by rfl) ?_ b6 0 k k (fun q _ => .int .i64 (C.getD q 0)) (by rfl) ?_ (fun _ _ => rfl) (by omega) (by decide) ?_ ?_; go_must (focus exact ownsRow_blk (Blk.drew (blk_newO _ _ _ (by simp))) (by omega)); go_loud (focus exact fun q j hq hj => HCa.out _ (by repeat' (first | (with_reducible exact Below.refl _ _) | (with_reducible assumption) | (with_reducible refine Below.alloc ?_ ?_ _) | (with_reducible refine Below.drew ?_) | (with_reducible refine Below.setCell ?_ ?_ _) | (with_reducible refine Below.stepB (by assumption) ?_ ?_) | go_size)) q j (by omega) hj); go_loud (focus first | omega | (simp; omega) | (simp; done)); intro v5b w5b hO5b hb5b hk5b; rw [Nat.zero_add, List.nil_append] at hO5b; obtain ⟨A5b, c5b, rfl⟩ := ownsRow_form hO5b; have hz5b := hb5b.size; (try simp at hz5b); (try (have hBf5b : Blk w5b w7a.heap.size 3 #[.int .i64 0] := (hk5b _ (by first | (simp; done) | (simp; omega)) (by simp [Value.ownBlock])).trans (show Blk ((w7a.alloc (.cells #[.int .i64 0] 3)).alloc (.cells #[] 3)).drew w7a.heap.size 3 #[.int .i64 0] from Blk.drew ((blk_newO w7a _ _ rfl).alloc _)))); clear hk5b)
                      | (refine step_append_rowG (by rfl) _ _ 51 (by rfl) w7a.heap.size 3 i0 _ 1 8 Try.underlying51 hi0 hz0 hz1 hz2 (by rfl) (by decide) _ k (flatG 1 (fun q _ => .int .i64 (C.getD q 0)) k) (by rfl) ?_ _ 0 1 1 (fun _ _ => .int .i64 0) (by rfl) ?_ (fun _ _ => rfl) (by omega) (by decide) ?_ ?_; go_loud (focus first | exact hO5b | exact ownsRow_below hO5b (Below.alloc (Below.refl _ _) (Nat.le_refl _) _)); go_loud (focus first | exact one_at0 hBf5b | exact one_at0 (blk_newO w5b _ _ rfl)); go_loud (focus first | omega | (simp; omega) | (simp; done)); intro v6b w6b hO6b hb6b hk6b; clear hk6b; obtain ⟨A6b, c6b, rfl⟩ := ownsRow_form hO6b; have hz6b := hb6b.size; (try simp at hz6b))
                      | (refine step_append_rowG (by rfl) _ _ 51 (by rfl) w7a.heap.size 3 i0 _ 1 8 Try.underlying51 hi0 hz0 hz1 hz2 (by rfl) (by decide) _ (k + 1) (flatG 1 (fun q _ => .int .i64 (C.getD q 0)) k ++ flatG 1 (fun _ _ => .int .i64 0) 1) (by rfl) ?_ b6 0 (C.length - k) _ (fun q _ => .int .i64 (C.getD (k + q) 0)) (by rfl) ?_ (fun _ _ => rfl) (by omega) (by decide) ?_ ?_; go_loud (focus exact hO6b); go_loud (focus (intro q j hq hj; exact absurd hq (by omega))); go_loud (focus omega); intro v7b w7b hO7b hb7b hk7b; clear hk7b; have hz7b := hb7b.size))
                all_goals
                  have HBb := Lib.hid (show Below w7a.heap.size w7a w7b from by repeat' (first | (with_reducible exact Below.refl _ _) | (with_reducible assumption) | (with_reducible refine Below.alloc ?_ ?_ _) | (with_reducible refine Below.drew ?_) | (with_reducible refine Below.setCell ?_ ?_ _) | (with_reducible refine Below.stepB (by assumption) ?_ ?_) | go_size))
                  have HOb := Lib.hid (own_put (Value.int .i64) 0 (base' := w.heap.size) hO7b (by omega) (by omega) (by omega))
                  obtain ⟨b7b, c7b, rfl⟩ := ownsRow_pos HOb.out (Nat.succ_pos _)
                  have HPb := Lib.hid (ownsRow_below HOa.out HBb.out)
                  clear hO7b hb7b
                  have hw7b := HBb.out.size
                  obtain ⟨g1, g2, g3⟩ := ownsRow_get (k := k) (u := .int .i64 0) HOb.out (by omega) (by rw [List.getElem?_map, get_put (by omega)]; rfl)
                  have HR8 := Lib.hid (ownsRow_setOther (q := k) (u := .int .i64 1) HPb.out HOb.out (by decide))
                  have HR9 := Lib.hid (ownsRow_set (k := k) (u := .int .i64 1) HOb.out (by omega))
                  have HB9 := Lib.hid (ownsRow_lt HOb.out).1
                  go_wp2
                  go_roundw
                  case rel =>
                    refine ⟨i + 1, D.take k ++ s :: D.drop k, C.take k ++ 1 :: C.drop k, b7a, c7a, b7b, c7b, by omega, by go_num, by rw [put_len (by omega)], by rw [put_len (by omega)], by rw [put_len (by omega)]; omega, HNEW.out, ?_, ?_, ?_⟩
                    · rw [put_len (by omega)]
                      exact HR8.out
                    · have h := HR9.out
                      rw [← List.map_set, set_put (by omega)] at h
                      rw [put_len (by omega)]
                      exact h
                    · exact Below.setCell (HB3.out.trans ((HBa.out.trans (HBb.out.mono (by omega))).mono (by omega))) HB9.out _
                  case measure => simp [intOf]; omega
            · skip
              go_region_law (first
                    | (refine step_append_rowG (by rfl) _ _ 58 (by rfl) w3.heap.size 9 s0 _ 1 16 Try.underlying58 hs0 hy0 hy1 hy2 (by rfl) (by decide) (.slice (some ⟨w3.heap.size, 0, none⟩) 0 0) 0 [] (by rfl) ?_ b5 0 k c5 (fun q _ => .string ⟨(D.getD q []).toArray⟩) (by rfl) ?_ (fun _ _ => rfl) (by omega) (by decide) ?_ ?_; go_must (focus first | exact ownsRow_blk (Blk.drew (blk_newO w3 _ _ rfl)) (Nat.le_refl _) | exact ownsRow_blk (Blk.drew ((blk_newO w3 _ _ rfl).alloc _)) (Nat.le_refl _)); go_loud (focus exact fun q j hq hj => HCD.out _ (by repeat' (first | (with_reducible exact Below.refl _ _) | (with_reducible assumption) | (with_reducible refine Below.alloc ?_ ?_ _) | (with_reducible refine Below.drew ?_) | (with_reducible refine Below.setCell ?_ ?_ _) | (with_reducible refine Below.stepB (by assumption) ?_ ?_) | go_size)) q j (by omega) hj); go_loud (focus first | omega | (simp; omega) | (simp; done)); intro v5a w5a hO5a hb5a hk5a; rw [Nat.zero_add, List.nil_append] at hO5a; obtain ⟨A5a, c5a, rfl⟩ := ownsRow_form hO5a; have hz5a := hb5a.size; (try simp at hz5a); (try (have hBf5a : Blk w5a (w3.heap.size + 1) 9 #[.string ⟨s.toArray⟩] := (hk5a _ (by first | (simp; done) | (simp; omega)) (by simp [Value.ownBlock])).trans (show Blk ((w3.alloc (.cells #[] 9)).alloc (.cells #[.string ⟨s.toArray⟩] 9)).drew (w3.heap.size + 1) 9 #[.string ⟨s.toArray⟩] from Blk.drew (blk_newO (w3.alloc (.cells #[] 9)) _ _ (by simp))))); clear hk5a)
                    | (refine step_append_rowG (by rfl) _ _ 58 (by rfl) w3.heap.size 9 s0 _ 1 16 Try.underlying58 hs0 hy0 hy1 hy2 (by rfl) (by decide) (.slice (some ⟨w3.heap.size + 1, 0, none⟩) 0 0) 0 [] (by rfl) ?_ b5 0 k c5 (fun q _ => .string ⟨(D.getD q []).toArray⟩) (by rfl) ?_ (fun _ _ => rfl) (by omega) (by decide) ?_ ?_; go_must (focus exact ownsRow_blk (Blk.drew (blk_newO _ _ _ (by simp))) (by omega)); go_loud (focus exact fun q j hq hj => HCD.out _ (by repeat' (first | (with_reducible exact Below.refl _ _) | (with_reducible assumption) | (with_reducible refine Below.alloc ?_ ?_ _) | (with_reducible refine Below.drew ?_) | (with_reducible refine Below.setCell ?_ ?_ _) | (with_reducible refine Below.stepB (by assumption) ?_ ?_) | go_size)) q j (by omega) hj); go_loud (focus first | omega | (simp; omega) | (simp; done)); intro v5a w5a hO5a hb5a hk5a; rw [Nat.zero_add, List.nil_append] at hO5a; obtain ⟨A5a, c5a, rfl⟩ := ownsRow_form hO5a; have hz5a := hb5a.size; (try simp at hz5a); (try (have hBf5a : Blk w5a w3.heap.size 9 #[.string ⟨s.toArray⟩] := (hk5a _ (by first | (simp; done) | (simp; omega)) (by simp [Value.ownBlock])).trans (show Blk ((w3.alloc (.cells #[.string ⟨s.toArray⟩] 9)).alloc (.cells #[] 9)).drew w3.heap.size 9 #[.string ⟨s.toArray⟩] from Blk.drew ((blk_newO w3 _ _ rfl).alloc _)))); clear hk5a)
                    | (refine step_append_rowG (by rfl) _ _ 58 (by rfl) w3.heap.size 9 s0 _ 1 16 Try.underlying58 hs0 hy0 hy1 hy2 (by rfl) (by decide) _ k (flatG 1 (fun q _ => .string ⟨(D.getD q []).toArray⟩) k) (by rfl) ?_ _ 0 1 1 (fun _ _ => .string ⟨s.toArray⟩) (by rfl) ?_ (fun _ _ => rfl) (by omega) (by decide) ?_ ?_; go_loud (focus first | exact hO5a | exact ownsRow_below hO5a (Below.alloc (Below.refl _ _) (Nat.le_refl _) _)); go_loud (focus first | exact one_at0 hBf5a | exact one_at0 (blk_newO w5a _ _ rfl)); go_loud (focus first | omega | (simp; omega) | (simp; done)); intro v6a w6a hO6a hb6a hk6a; clear hk6a; obtain ⟨A6a, c6a, rfl⟩ := ownsRow_form hO6a; have hz6a := hb6a.size; (try simp at hz6a))
                    | (refine step_append_rowG (by rfl) _ _ 58 (by rfl) w3.heap.size 9 s0 _ 1 16 Try.underlying58 hs0 hy0 hy1 hy2 (by rfl) (by decide) _ (k + 1) (flatG 1 (fun q _ => .string ⟨(D.getD q []).toArray⟩) k ++ flatG 1 (fun _ _ => .string ⟨s.toArray⟩) 1) (by rfl) ?_ b5 k (D.length - k) (c5 - k) (fun q _ => .string ⟨(D.getD (k + q) []).toArray⟩) (by rfl) ?_ (fun _ _ => rfl) (by omega) (by decide) ?_ ?_; go_loud (focus exact hO6a); go_loud (focus (intro q j hq hj; exact absurd hq (by omega))); go_loud (focus omega); intro v7a w7a hO7a hb7a hk7a; clear hk7a; have hz7a := hb7a.size))
              all_goals
                have HBa := Lib.hid (show Below w3.heap.size w3 w7a from by repeat' (first | (with_reducible exact Below.refl _ _) | (with_reducible assumption) | (with_reducible refine Below.alloc ?_ ?_ _) | (with_reducible refine Below.drew ?_) | (with_reducible refine Below.setCell ?_ ?_ _) | (with_reducible refine Below.stepB (by assumption) ?_ ?_) | go_size))
                have HOa := Lib.hid (own_put strV [] (base' := w.heap.size) hO7a (by omega) (by omega) (by omega))
                obtain ⟨b7a, c7a, rfl⟩ := ownsRow_pos HOa.out (Nat.succ_pos _)
                have HPa := Lib.hid (ownsRow_below hP6.out HBa.out)
                clear hO7a hb7a
                have hw3a := HBa.out.size
                have HCa := Lib.hid (fun (W : World) (hb : Below w7a.heap.size w7a W) => HCC.out W (HBa.out.trans (hb.mono hw3a)))
                go_wp2_with fail
                go_region_law (first
                      | (refine step_append_rowG (by rfl) _ _ 51 (by rfl) w7a.heap.size 3 i0 _ 1 8 Try.underlying51 hi0 hz0 hz1 hz2 (by rfl) (by decide) (.slice (some ⟨w7a.heap.size, 0, none⟩) 0 0) 0 [] (by rfl) ?_ b6 0 k c6 (fun q _ => .int .i64 (C.getD q 0)) (by rfl) ?_ (fun _ _ => rfl) (by omega) (by decide) ?_ ?_; go_must (focus first | exact ownsRow_blk (Blk.drew (blk_newO w7a _ _ rfl)) (Nat.le_refl _) | exact ownsRow_blk (Blk.drew ((blk_newO w7a _ _ rfl).alloc _)) (Nat.le_refl _)); go_loud (focus exact fun q j hq hj => HCa.out _ (by repeat' (first | (with_reducible exact Below.refl _ _) | (with_reducible assumption) | (with_reducible refine Below.alloc ?_ ?_ _) | (with_reducible refine Below.drew ?_) | (with_reducible refine Below.setCell ?_ ?_ _) | (with_reducible refine Below.stepB (by assumption) ?_ ?_) | go_size)) q j (by omega) hj); go_loud (focus first | omega | (simp; omega) | (simp; done)); intro v5b w5b hO5b hb5b hk5b; rw [Nat.zero_add, List.nil_append] at hO5b; obtain ⟨A5b, c5b, rfl⟩ := ownsRow_form hO5b; have hz5b := hb5b.size; (try simp at hz5b); (try (have hBf5b : Blk w5b (w7a.heap.size + 1) 3 #[.int .i64 0] := (hk5b _ (by first | (simp; done) | (simp; omega)) (by simp [Value.ownBlock])).trans (show Blk ((w7a.alloc (.cells #[] 3)).alloc (.cells #[.int .i64 0] 3)).drew (w7a.heap.size + 1) 3 #[.int .i64 0] from Blk.drew (blk_newO (w7a.alloc (.cells #[] 3)) _ _ (by simp))))); clear hk5b)
                      | (refine step_append_rowG (by rfl) _ _ 51 (by rfl) w7a.heap.size 3 i0 _ 1 8 Try.underlying51 hi0 hz0 hz1 hz2 (by rfl) (by decide) (.slice (some ⟨w7a.heap.size + 1, 0, none⟩) 0 0) 0 [] (by rfl) ?_ b6 0 k c6 (fun q _ => .int .i64 (C.getD q 0)) (by rfl) ?_ (fun _ _ => rfl) (by omega) (by decide) ?_ ?_; go_must (focus exact ownsRow_blk (Blk.drew (blk_newO _ _ _ (by simp))) (by omega)); go_loud (focus exact fun q j hq hj => HCa.out _ (by repeat' (first | (with_reducible exact Below.refl _ _) | (with_reducible assumption) | (with_reducible refine Below.alloc ?_ ?_ _) | (with_reducible refine Below.drew ?_) | (with_reducible refine Below.setCell ?_ ?_ _) | (with_reducible refine Below.stepB (by assumption) ?_ ?_) | go_size)) q j (by omega) hj); go_loud (focus first | omega | (simp; omega) | (simp; done)); intro v5b w5b hO5b hb5b hk5b; rw [Nat.zero_add, List.nil_append] at hO5b; obtain ⟨A5b, c5b, rfl⟩ := ownsRow_form hO5b; have hz5b := hb5b.size; (try simp at hz5b); (try (have hBf5b : Blk w5b w7a.heap.size 3 #[.int .i64 0] := (hk5b _ (by first | (simp; done) | (simp; omega)) (by simp [Value.ownBlock])).trans (show Blk ((w7a.alloc (.cells #[.int .i64 0] 3)).alloc (.cells #[] 3)).drew w7a.heap.size 3 #[.int .i64 0] from Blk.drew ((blk_newO w7a _ _ rfl).alloc _)))); clear hk5b)
                      | (refine step_append_rowG (by rfl) _ _ 51 (by rfl) w7a.heap.size 3 i0 _ 1 8 Try.underlying51 hi0 hz0 hz1 hz2 (by rfl) (by decide) _ k (flatG 1 (fun q _ => .int .i64 (C.getD q 0)) k) (by rfl) ?_ _ 0 1 1 (fun _ _ => .int .i64 0) (by rfl) ?_ (fun _ _ => rfl) (by omega) (by decide) ?_ ?_; go_loud (focus first | exact hO5b | exact ownsRow_below hO5b (Below.alloc (Below.refl _ _) (Nat.le_refl _) _)); go_loud (focus first | exact one_at0 hBf5b | exact one_at0 (blk_newO w5b _ _ rfl)); go_loud (focus first | omega | (simp; omega) | (simp; done)); intro v6b w6b hO6b hb6b hk6b; clear hk6b; obtain ⟨A6b, c6b, rfl⟩ := ownsRow_form hO6b; have hz6b := hb6b.size; (try simp at hz6b))
                      | (refine step_append_rowG (by rfl) _ _ 51 (by rfl) w7a.heap.size 3 i0 _ 1 8 Try.underlying51 hi0 hz0 hz1 hz2 (by rfl) (by decide) _ (k + 1) (flatG 1 (fun q _ => .int .i64 (C.getD q 0)) k ++ flatG 1 (fun _ _ => .int .i64 0) 1) (by rfl) ?_ b6 k (C.length - k) (c6 - k) (fun q _ => .int .i64 (C.getD (k + q) 0)) (by rfl) ?_ (fun _ _ => rfl) (by omega) (by decide) ?_ ?_; go_loud (focus exact hO6b); go_loud (focus (intro q j hq hj; exact absurd hq (by omega))); go_loud (focus omega); intro v7b w7b hO7b hb7b hk7b; clear hk7b; have hz7b := hb7b.size))
                all_goals
                  have HBb := Lib.hid (show Below w7a.heap.size w7a w7b from by repeat' (first | (with_reducible exact Below.refl _ _) | (with_reducible assumption) | (with_reducible refine Below.alloc ?_ ?_ _) | (with_reducible refine Below.drew ?_) | (with_reducible refine Below.setCell ?_ ?_ _) | (with_reducible refine Below.stepB (by assumption) ?_ ?_) | go_size))
                  have HOb := Lib.hid (own_put (Value.int .i64) 0 (base' := w.heap.size) hO7b (by omega) (by omega) (by omega))
                  obtain ⟨b7b, c7b, rfl⟩ := ownsRow_pos HOb.out (Nat.succ_pos _)
                  have HPb := Lib.hid (ownsRow_below HOa.out HBb.out)
                  clear hO7b hb7b
                  have hw7b := HBb.out.size
                  obtain ⟨g1, g2, g3⟩ := ownsRow_get (k := k) (u := .int .i64 0) HOb.out (by omega) (by rw [List.getElem?_map, get_put (by omega)]; rfl)
                  have HR8 := Lib.hid (ownsRow_setOther (q := k) (u := .int .i64 1) HPb.out HOb.out (by decide))
                  have HR9 := Lib.hid (ownsRow_set (k := k) (u := .int .i64 1) HOb.out (by omega))
                  have HB9 := Lib.hid (ownsRow_lt HOb.out).1
                  go_wp2
                  go_roundw
                  case rel =>
                    refine ⟨i + 1, D.take k ++ s :: D.drop k, C.take k ++ 1 :: C.drop k, b7a, c7a, b7b, c7b, by omega, by go_num, by rw [put_len (by omega)], by rw [put_len (by omega)], by rw [put_len (by omega)]; omega, HNEW.out, ?_, ?_, ?_⟩
                    · rw [put_len (by omega)]
                      exact HR8.out
                    · have h := HR9.out
                      rw [← List.map_set, set_put (by omega)] at h
                      rw [put_len (by omega)]
                      exact h
                    · exact Below.setCell (HB3.out.trans ((HBa.out.trans (HBb.out.mono (by omega))).mono (by omega))) HB9.out _
                  case measure => simp [intOf]; omega
    · obtain rfl : i = n := by omega
      go_wp2
      go_ret3
      exact ⟨D, C, hC.out, hDi, CntOut.rows hP5.out hP6.out rfl (Nat.le_refl _) (Nat.le_refl _) hbr⟩
end Go.Proofs.Ytfecepjdjikenaa
