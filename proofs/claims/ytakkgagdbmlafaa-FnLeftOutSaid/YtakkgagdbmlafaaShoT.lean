/- Contract: the reference's choice of shoals. -/
import Derived.Test.YtakkgagdbmlafaaShoR
import Derived.Test.YtakkgagdbmlafaaShoS
namespace Go.Proofs.Ytakkgagdbmlafaa
open Go.RowKit
theorem specShoals_no (A : Option Addr) (n c : Nat) (f : Nat → SD) (r : Int) (w : World) (hS : SlSD w A n f) (hn : n ≤ 1048576) (h : shoOk f n r = false) :
    Calls Try.prog 24 #[.slice A n c, .int .i64 r] w fun e w' => IntsOut w [] false e w' := by
  have hg := fun g W (hb : Below w.heap.size w W) => l16Asked_any A n c f (some ⟨g, 0, none⟩) 0 0 (fun _ => 0) r W (hS.below hb) (fun h => absurd h (Nat.lt_irrefl _)) hn (by decide)
  have ha : askB f n (fun _ => 0) 0 r = false := by simpa [askB, selB, shoOk, ascN, fndB, allUpto] using h
  rw [ha] at hg
  have HG := Lib.hid hg
  clear hg ha h hS
  go_enter Try.func24, Try.ntmps24
  go_wp2_with fail
  refine (HG.out _ _ (by repeat' (first | (with_reducible exact Below.refl _ _) | (with_reducible assumption) | (with_reducible refine Below.alloc ?_ ?_ _) | (with_reducible refine Below.drew ?_) | (with_reducible refine Below.setCell ?_ ?_ _) | (with_reducible refine Below.stepB (by assumption) ?_ ?_) | go_size))).mono ?_
  rintro e w1 ⟨rfl, hbw1⟩
  obtain ⟨hzw1, hcw1, hfw1⟩ := bfacts hbw1; (try simp at hzw1 hcw1 hfw1); (try (have : w.heap.size < w1.heap.size := by omega)); (try (have : w.heap.size + 1 < w1.heap.size := by omega)); (try (have : w.heap.size + 1 + 1 < w1.heap.size := by omega)); (try (have : w.heap.size + 1 + 1 + 1 < w1.heap.size := by omega))
  go_wp2
  go_ret2
  exact IntsOut.row (ownsRow_below (ownsRow_empty w 3 1) (by repeat' (first | (with_reducible exact Below.refl _ _) | (with_reducible assumption) | (with_reducible refine Below.alloc ?_ ?_ _) | (with_reducible refine Below.drew ?_) | (with_reducible refine Below.setCell ?_ ?_ _) | (with_reducible refine Below.stepB (by assumption) ?_ ?_) | go_size))) rfl rfl (by omega) (by repeat' (first | (with_reducible exact Below.refl _ _) | (with_reducible assumption) | (with_reducible refine Below.alloc ?_ ?_ _) | (with_reducible refine Below.drew ?_) | (with_reducible refine Below.setCell ?_ ?_ _) | (with_reducible refine Below.stepB (by assumption) ?_ ?_) | go_size))
theorem ask_of_sho {f : Nat → SD} {n : Nat} {r : Int} (h : shoOk f n r = true) : askB f n (fun _ => 0) 0 r = true := by
  simpa [askB, selB, shoOk, ascN, fndB, allUpto] using h
/-- what holds of the list that the reference keeps -/
def ChosenY (f : Nat → SD) (n : Nat) (r : Int) (Y : List Int) : Prop := ∃ X, Y = ascL X ∧ Chosen f n r X
theorem choY_nil (f : Nat → SD) (n : Nat) (r : Int) : ChosenY f n r [] := ⟨[], rfl, chosen_nil f n r⟩
theorem choY_op {f : Nat → SD} {n : Nat} {r : Int} {X : List Int} : opX f n r (ascL X) = opX f n r X := opX_perm (ascL_perm X)
theorem choY_next {f : Nat → SD} {n : Nat} {r : Int} (hg : goodNAll f n = true) (hr : 0 ≤ r * r) {Y : List Int} (h : ChosenY f n r Y) (ho : 0 < (opX f n r Y).length) : ChosenY f n r (putL Y (bestS (opX f n r Y))) := by
  obtain ⟨X, rfl, hX⟩ := h
  rw [choY_op] at ho ⊢
  exact ⟨X ++ [bestS (opX f n r X)], by rw [ascL_snoc], chosen_next hg hr hX ho⟩
theorem choY_end {f : Nat → SD} {n : Nat} {r : Int} {Y : List Int} (h : ChosenY f n r Y) (ho : (opX f n r Y).length = 0) : Y = shoL f n r := by
  obtain ⟨X, rfl, hX⟩ := h
  rw [choY_op] at ho
  rw [shoL, ← chosen_end hX ho]
theorem choY_len {f : Nat → SD} {n : Nat} {r : Int} {Y : List Int} (h : ChosenY f n r Y) : Y.length + (opX f n r Y).length ≤ n := by
  obtain ⟨X, rfl, k, _, _, h3, _⟩ := h
  rw [choY_op, ascL_len]
  exact h3
theorem choY_fnd {f : Nat → SD} {n : Nat} {r : Int} {Y : List Int} (h : ChosenY f n r Y) : fndB f n (fun i => Y.getD i 0) Y.length = true := by
  obtain ⟨X, rfl, k, _, _, _, h4⟩ := h
  have h1 := allUpto_iff.1 h4
  refine allUpto_iff.2 (fun i hi => ?_)
  have hm : (ascL X).getD i 0 ∈ X := (ascL_perm X).mem_iff.1 (by simp [List.getD, hi])
  obtain ⟨j, hj, e⟩ := List.mem_iff_getElem.1 hm
  have h2 := h1 j hj
  have e2 : X.getD j 0 = (ascL X).getD i 0 := by rw [← e]; simp [List.getD, hj]
  simp only [e2] at h2
  exact h2
theorem idx_own {f : Nat → SD} {n : Nat} (hg : goodNAll f n = true) {q : Nat} (hq : q < n) : idxId f n (f q).id = (q : Int) := by
  rcases idxId_cases f n (f q).id with ⟨_, h⟩ | ⟨k, hk, h1, h2⟩
  · exact absurd rfl (h q hq)
  · have ha := goodN_asc (goodNAll_iff.1 hg).1
    have : k = q := by
      rcases Nat.lt_trichotomy k q with h | h | h
      · have := ha k q h hq; omega
      · exact h
      · have := ha q k h hk; omega
    rw [h1, this]
theorem ownsRow_pos {w : World} {base : Nat} {e : TypeId} {v : Value} {n : Nat} {xs : List Value} (h : w.ownsRow base e 1 v n xs) (hn : 0 < n) : ∃ b c, v = .slice (some ⟨b, 0, none⟩) n c := by
  rcases h.2 with ⟨_, h0⟩ | ⟨g, cap, cur, hv, _⟩
  · omega
  · exact ⟨g, cap, hv⟩
theorem ownsRow_some {w : World} {base : Nat} {e : TypeId} {b n c : Nat} {xs : List Value} (h : w.ownsRow base e 1 (.slice (some ⟨b, 0, none⟩) n c) n xs) : b < w.heap.size ∧ n ≤ c := by
  rcases h.2 with ⟨hv, _⟩ | ⟨g, cap, cur, hv, hb, hh, hnc, _⟩
  · cases hv
  · injection hv with h1 h2 h3
    injection h1 with h1
    injection h1 with h1
    subst h1
    subst h3
    exact ⟨(Array.getElem?_eq_some_iff.1 hh).1, hnc⟩
theorem opX_f {f : Nat → SD} {n : Nat} {r : Int} {Y : List Int} (i : Nat) (hi : i < (opX f n r Y).length) : ∃ q, q < n ∧ (opX f n r Y).getD i noSD = f q := by
  obtain ⟨q, h1, _, h3⟩ := pick_mem (p := openP f n (fun i => Y.getD i 0) Y.length r) (h := f) (n := n) noSD hi
  exact ⟨q, h1, h3⟩
theorem own_base {w : World} {base base' : Nat} {e : TypeId} {v : Value} {n : Nat} {xs : List Value} (h : w.ownsRow base e 1 v n xs) (hb : base' ≤ base) : w.ownsRow base' e 1 v n xs :=
  ⟨h.1, h.2.imp id fun ⟨g, cap, cur, hv, hg, r⟩ => ⟨g, cap, cur, hv, Nat.le_trans hb hg, r⟩⟩
set_option maxRecDepth 100000 in
set_option maxHeartbeats 2000000 in
theorem specShoals_yes (A : Option Addr) (n c : Nat) (f : Nat → SD) (r : Int) (w : World) (hS : SlSD w A n f) (hn : n ≤ 1048576) (h : shoOk f n r = true) :
    Calls Try.prog 24 #[.slice A n c, .int .i64 r] w fun e w' => IntsOut w (shoL f n r) true e w' := by
  obtain ⟨hgd, hr⟩ : goodNAll f n = true ∧ inB r 1 1000 = true := by simpa [shoOk] using h
  have hg := fun g W (hb : Below w.heap.size w W) => l16Asked_any A n c f (some ⟨g, 0, none⟩) 0 0 (fun _ => 0) r W (hS.below hb) (fun h => absurd h (Nat.lt_irrefl _)) hn (by decide)
  rw [ask_of_sho h] at hg
  have HG := Lib.hid hg
  have HGD := Lib.hid hgd
  have HRR := Lib.hid (show 0 ≤ r * r by have := rad_bd hr; omega)
  have hn12 := (goodNAll_iff.1 hgd).2
  have HT := Lib.hid (fun Y (hY : ChosenY f n r Y) A6 c6 W (hb : Below w.heap.size w W) (hO : SlI W A6 Y.length (fun i => Y.getD i 0)) => l16Open_any A n c f A6 Y.length c6 (fun i => Y.getD i 0) r W (hS.below hb) hO hn (by have := choY_len hY; omega) hgd (choY_fnd hY) hr)
  have HLO := Lib.hid (fun q (hq : q < n) W => l8Low_any (f q) W (goodN_lt (goodNAll_iff.1 hgd).1 q hq))
  have HFI := Lib.hid (fun q (hq : q < n) W (hb : Below w.heap.size w W) => show Calls Try.prog 67 #[.slice A n c, .int .i64 (f q).id] W fun e w' => e = .returned (.int .i64 (q : Int)) ∧ W = w' from by
    have h1 := l8Find_any A n c f (f q).id W (hS.below hb) hn
    rw [idx_own hgd hq] at h1
    exact h1.mono (fun e w' h => by simpa [eq_comm] using h))
  have HS := Lib.hid hS
  clear hS hg hgd h hr
  go_enter Try.func24, Try.ntmps24
  go_wp2_with fail
  refine (HG.out _ _ (by repeat' (first | (with_reducible exact Below.refl _ _) | (with_reducible assumption) | (with_reducible refine Below.alloc ?_ ?_ _) | (with_reducible refine Below.drew ?_) | (with_reducible refine Below.setCell ?_ ?_ _) | (with_reducible refine Below.stepB (by assumption) ?_ ?_) | go_size))).mono ?_
  rintro e w1 ⟨rfl, hbw1⟩
  obtain ⟨hzw1, hcw1, hfw1⟩ := bfacts hbw1; (try simp at hzw1 hcw1 hfw1); (try (have : w.heap.size < w1.heap.size := by omega)); (try (have : w.heap.size + 1 < w1.heap.size := by omega)); (try (have : w.heap.size + 1 + 1 < w1.heap.size := by omega)); (try (have : w.heap.size + 1 + 1 + 1 < w1.heap.size := by omega))
  have hO0 := Lib.hid (ownsRow_below (ownsRow_empty w 3 1) (by repeat' (first | (with_reducible exact Below.refl _ _) | (with_reducible assumption) | (with_reducible refine Below.alloc ?_ ?_ _) | (with_reducible refine Below.drew ?_) | (with_reducible refine Below.setCell ?_ ?_ _) | (with_reducible refine Below.stepB (by assumption) ?_ ?_) | go_size)) : w1.ownsRow w.heap.size 3 1 _ _ _)
  go_wp2
  go_loopw [6] (fun v6 wr => ∃ Y : List Int, ∃ b c6, v6 = .slice (some ⟨b, 0, none⟩) Y.length c6 ∧ Hid (ChosenY f n r Y) ∧ Hid (wr.ownsRow w.heap.size 3 1 (.slice (some ⟨b, 0, none⟩) Y.length c6) Y.length (Y.map (Value.int .i64))) ∧ Below w.heap.size w wr) (fun v6 _ => n - lenV v6)
  case atStart => exact ⟨[], _, _, rfl, choY_nil f n r, hO0.out, by repeat' (first | (with_reducible exact Below.refl _ _) | (with_reducible assumption) | (with_reducible refine Below.alloc ?_ ?_ _) | (with_reducible refine Below.drew ?_) | (with_reducible refine Below.setCell ?_ ?_ _) | (with_reducible refine Below.stepB (by assumption) ?_ ?_) | go_size)⟩
  case round =>
    clear hO0
    obtain ⟨Y, b, c6, rfl, hY, hO, hbr⟩ := hrel
    have hzr := hbr.size
    have hYl := choY_len hY.out
    obtain ⟨hbl, hyc⟩ := ownsRow_some hO.out
    go_wp2_with fail
    refine (HT.out Y hY.out _ c6 _ hbr (ownI_of rfl hO.out).sl).mono ?_
    rintro e w3 ⟨A7, c7, rfl, hS7, hbw3⟩
    have HO3 := Lib.hid (ownsRow_below hO.out (hbw3.mono (by omega)) : w3.ownsRow w.heap.size 3 1 _ _ _)
    have hbr3 := hbr.trans (hbw3.mono (by omega))
    have hz3 := hbw3.size
    obtain ⟨S, hS0⟩ : ∃ S, S = opX f n r Y := ⟨_, rfl⟩
    have HSE := Lib.hid hS0
    have hids : openL f n (fun i => Y.getD i 0) Y.length r = S.map SD.id := by rw [hS0]; exact (openS_ids f n _ _ r).symm
    rw [hids] at hS7 ⊢
    rw [List.length_map] at hS7 ⊢
    rw [← hS0] at hYl
    obtain ⟨G, hG⟩ : ∃ G : Nat → SD, G = fun i => S.getD i noSD := ⟨_, rfl⟩
    obtain ⟨m, hm⟩ : ∃ m, m = S.length := ⟨_, rfl⟩
    have HSL : Hid (SlI w3 A7 m (fun i => (G i).id)) := fun h0 => by
      obtain ⟨b1, o1, e1, hl, hc⟩ := hS7.sl (by omega)
      refine ⟨b1, o1, e1, hl, fun i j hi hj => ?_⟩
      rw [hc i j (by omega) hj, hG]
      simp [List.getD, show i < S.length by omega]
    have HGF : Hid (∀ i, i < m → ∃ q, q < n ∧ G i = f q) := fun i hi => by
      rw [hG]
      have := opX_f (f := f) (n := n) (r := r) (Y := Y) i (by rw [← hS0, ← hm]; exact hi)
      rwa [← hS0] at this
    have HBE : Hid (bestS S = (G (minI (lowAt G) m)).id) := by show _ = _; rw [hG, hm]; rfl
    have HML : Hid (m = S.length) := hm
    rw [← hm] at hYl ⊢
    clear hS7 hbw3 hO hS0 hids hG hm
    rcases Nat.eq_zero_or_pos m with h0 | hp
    · have HEX := Lib.hid (choY_end hY.out (by rw [← HSE.out, ← HML.out]; exact h0))
      go_wp2
      go_ret2
      exact IntsOut.row HO3.out HEX.out.symm rfl (by omega) hbr3
    · have HNX := Lib.hid (choY_next HGD.out HRR.out hY.out (by rw [← HSE.out, ← HML.out]; exact hp))
      rw [← HSE.out, HBE.out] at HNX
      have HNW := Lib.hid (best_new HGD.out HRR.out (X := Y) (by rw [← HSE.out, ← HML.out]; exact hp))
      rw [← HSE.out, HBE.out] at HNW
      obtain ⟨b7, o7, rfl, hbl7, hbl7', z0⟩ := SlI.at HSL.out (Below.refl _ _) hp
      (try rw [Nat.add_zero] at z0)
      have HBR3 := Lib.hid hbr3
      have hmz : ((m : Int) == 0) = false := by simp; omega
      clear hbr hbr3
      go_wp2
      go_loopw [8, 9] (fun v8 v9 wr => ∃ k : Nat, 1 ≤ k ∧ k ≤ m ∧ v9 = .int .i64 k ∧ v8 = .int .i64 (G (minI (lowAt G) k)).id ∧ Below w3.heap.size w3 wr) (fun _ v9 _ => m - (intOf v9).toNat)
      case atStart => exact ⟨1, Nat.le_refl _, hp, rfl, rfl, by repeat' (first | (with_reducible exact Below.refl _ _) | (with_reducible assumption) | (with_reducible refine Below.alloc ?_ ?_ _) | (with_reducible refine Below.drew ?_) | (with_reducible refine Below.setCell ?_ ?_ _) | (with_reducible refine Below.stepB (by assumption) ?_ ?_) | go_size)⟩
      case round =>
        rename World => wq
        obtain ⟨k, hk1, hk, rfl, rfl, hbq⟩ := hrel
        have hzq := hbq.size
        have hbW := HBR3.out.trans (hbq.mono (by omega))
        by_cases hlt : k < m
        · have hbl : minI (lowAt G) k < k := minI_lt (by omega)
          have HN : Hid (minI (lowAt G) (k + 1) = if lowAt G k < lowAt G (minI (lowAt G) k) then k else minI (lowAt G) k) := by
            show _ = _
            rw [minI, if_neg (by omega)]
          generalize minI (lowAt G) k = p at HN hbl ⊢
          obtain ⟨q1, hq1, e1⟩ := HGF.out k hlt
          obtain ⟨q2, hq2, e2⟩ := HGF.out p (by omega)
          obtain ⟨b8, o8, hbo, hbl8, hbl8', y0⟩ := SlI.at HSL.out hbq hlt
          obtain ⟨rfl, rfl⟩ : b7 = b8 ∧ o7 = o8 := by simpa using hbo
          clear hbo
          obtain ⟨b9, o9, rfl, hbl9, hbl9', x0, x1, x2, x3, x4, hx⟩ := HS.out.at hbW hq1
          clear hx
          have HNk : Hid (lowV (f q1) < lowV (f q2) → (G (minI (lowAt G) (k + 1))).id = (f q1).id) := fun hl => by
            have : lowAt G k < lowAt G p := by show lowV (G k) < lowV (G p); rw [e1, e2]; exact hl
            rw [HN.out, if_pos this, e1]
          have HNp : Hid (¬ lowV (f q1) < lowV (f q2) → (G (minI (lowAt G) (k + 1))).id = (f q2).id) := fun hl => by
            have : ¬ lowAt G k < lowAt G p := by show ¬ lowV (G k) < lowV (G p); rw [e1, e2]; exact hl
            rw [HN.out, if_neg this, e2]
          rw [e1] at y0
          rw [e2]
          clear e1 e2 HN
          have HBW := Lib.hid hbW
          have HBQ := Lib.hid hbq
          clear hbW hbq
          go_wp2_with fail
          refine (HFI.out q1 hq1 _ HBW.out).mono ?_
          rintro e w4 ⟨rfl, rfl⟩
          go_wp2_with fail
          refine (HLO.out q1 hq1 _).mono ?_
          rintro e w5 ⟨rfl, hbw5⟩
          have hz5 := hbw5.size
          have HB5 := Lib.hid (HBW.out.trans (hbw5.mono (by omega)))
          obtain ⟨b10, o10, hbo, hbl10, hbl10', u0, u1, u2, u3, u4, hx⟩ := HS.out.at HB5.out hq2
          obtain ⟨rfl, rfl⟩ : b9 = b10 ∧ o9 = o10 := by simpa using hbo
          clear hbo hx
          have y5 := (hbw5.cell (p := ⟨b7, _, none⟩) (by show b7 < _; omega)).trans y0
          have HQ5 := Lib.hid (HBQ.out.trans (hbw5.mono (by omega)))
          clear hbw5 y0
          go_wp2_with fail
          refine (HFI.out q2 hq2 _ HB5.out).mono ?_
          rintro e w6 ⟨rfl, rfl⟩
          go_wp2_with fail
          refine (HLO.out q2 hq2 _).mono ?_
          rintro e w7 ⟨rfl, hbw7⟩
          have hz7 := hbw7.size
          have y7 := (hbw7.cell (p := ⟨b7, _, none⟩) (by show b7 < _; omega)).trans y5
          have HQ7 := Lib.hid (HQ5.out.trans (hbw7.mono (by omega)))
          clear hbw7 y5
          by_cases hlow : lowV (f q1) < lowV (f q2)
          · have hd : decide (lowV (f q1) < lowV (f q2)) = true := decide_eq_true hlow
            have HE := Lib.hid (HNk.out hlow)
            clear hlow
            go_wp2
            go_roundw
            case rel => exact ⟨k + 1, by omega, by omega, by go_num, by rw [HE.out], HQ7.out⟩
            case measure => simp [intOf]; omega
          · have hd : decide (lowV (f q1) < lowV (f q2)) = false := decide_eq_false hlow
            have HE := Lib.hid (HNp.out (by omega))
            clear hlow
            go_wp2
            go_roundw
            case rel => exact ⟨k + 1, by omega, by omega, by go_num, by rw [HE.out], HQ7.out⟩
            case measure => simp [intOf]; omega
        · obtain rfl : k = m := by omega
          have HOQ := Lib.hid (ownsRow_below HO3.out (hbq.mono (by omega)) : wq.ownsRow w.heap.size 3 1 _ _ _)
          generalize (G (minI (lowAt G) k)).id = best at HNX HNW ⊢
          have HBW := Lib.hid hbW
          clear hbW hbq
          go_wp2_with fail
          refine (l1Put_any b c6 Y best _ ((ownI_of rfl HOQ.out).sl) (by omega) hyc (by omega) HNW.out).mono ?_
          rintro e w9 ⟨v, rfl, hO9, hbw9⟩
          obtain ⟨b9, c9, rfl⟩ := ownsRow_pos hO9 (by rw [putL_len]; omega)
          have HO9 := Lib.hid (own_base hO9 (show w.heap.size ≤ _ by omega))
          have HB9 := Lib.hid (HBW.out.trans (hbw9.mono (by omega)))
          clear hO9 hbw9
          go_wp2
          go_roundw
          case rel => exact ⟨putL Y best, b9, c9, rfl, HNX.out, HO9.out, HB9.out⟩
          case measure =>
            simp [lenV, putL_len]
            omega
theorem specShoals_any (A : Option Addr) (n c : Nat) (f : Nat → SD) (r : Int) (w : World) (hS : SlSD w A n f) (hn : n ≤ 1048576) :
    Calls Try.prog 24 #[.slice A n c, .int .i64 r] w fun e w' => IntsOut w (shoO f n r) (shoOk f n r) e w' := by
  rcases Bool.eq_false_or_eq_true (shoOk f n r) with h | h
  · rw [shoO, h]
    exact specShoals_yes A n c f r w hS hn h
  · rw [shoO, h]
    exact specShoals_no A n c f r w hS hn h
end Go.Proofs.Ytakkgagdbmlafaa
