/- Contracts: the reference's fewest safe ones, by ever longer selections. -/
import Derived.Test.YtakkgagdbmlafaaFewI
import Derived.Test.YtakkgagdbmlafaaShoT
namespace Go.Proofs.Ytakkgagdbmlafaa
open Go.RowKit
theorem fnd_app {f : Nat → SD} {n k : Nat} {X : List Int} (h : fndB f n (fun i => X.getD i 0) X.length = true) (hk : k < n) :
    fndB f n (fun i => (X ++ [(f k).id]).getD i 0) (X ++ [(f k).id]).length = true := by
  refine allUpto_iff.2 (fun j hj => ?_)
  have h1 := allUpto_iff.1 h
  simp only [List.length_append, List.length_singleton] at hj
  by_cases hlt : j < X.length
  · have := h1 j hlt
    simp only [decide_eq_true_eq] at this ⊢
    simpa [List.getD, List.getElem?_append_left hlt] using this
  · have : j = X.length := by omega
    subst this
    have e2 : (X ++ [(f k).id]).getD X.length 0 = (f k).id := by simp [List.getD]
    simp only [e2]
    rcases idxId_cases f n (f k).id with ⟨_, h⟩ | ⟨q, _, h1, _⟩
    · exact absurd rfl (h k hk)
    · rw [h1]; simp
theorem flat_app {X : List Int} {z : Int} : flatG 1 (cellI fun i => X.getD i 0) X.length ++ flatG 1 (fun _ _ => Value.int .i64 z) 1 = (X ++ [z]).map (Value.int .i64) := by
  have e1 : flatG 1 (cellI fun i => X.getD i 0) X.length = X.map (Value.int .i64) := by
    refine List.ext_getElem? (fun q => ?_)
    by_cases hq : q < X.length
    · have h := flatG_get (k := 1) (g := cellI fun i => X.getD i 0) (n := X.length) (i := q) (j := 0) hq (by decide)
      simp only [Nat.mul_one, Nat.add_zero] at h
      rw [h, List.getElem?_map]
      simp [List.getD, hq, cellI]
    · rw [List.getElem?_eq_none (by rw [flatG_len]; omega), List.getElem?_eq_none (by simp; omega)]
  rw [e1, List.map_append]
  rfl
theorem Some_true {f : Nat → SD} {n k : Nat} {r : Int} {m : Nat} {X : List Int} {i : Nat} (hk : k < n) (hi : i ≤ k) (h : someN f n r m (X ++ [(f k).id]) (k + 1) = true) : someN f n r (m + 1) X i = true := by
  unfold someN
  rw [Bool.or_eq_true]
  exact .inr (hasP_true.2 ⟨k, hk, by simp [hi, h]⟩)
theorem Some_false {f : Nat → SD} {n : Nat} {r : Int} {m : Nat} {X : List Int} {i : Nat} (hs : safeX f n r X = false) (h : ∀ j, i ≤ j → j < n → someN f n r m (X ++ [(f j).id]) (j + 1) = false) : someN f n r (m + 1) X i = false := by
  unfold someN
  rw [hs, Bool.false_or, hasP_false]
  intro j hj
  by_cases hi : i ≤ j
  · rw [h j hi hj, Bool.and_false]
  · simp [hi]
theorem Some_safe {f : Nat → SD} {n : Nat} {r : Int} {X : List Int} {i : Nat} (hs : safeX f n r X = true) : ∀ m, someN f n r m X i = true
  | 0 => hs
  | m + 1 => by
    unfold someN
    rw [hs, Bool.true_or]
theorem safe_open {f : Nat → SD} {n : Nat} {r : Int} {X : List Int} : safeX f n r X = decide ((openL f n (fun i => X.getD i 0) X.length r).length = 0) := by
  rw [← openS_len]
  rfl
set_option maxRecDepth 100000 in
set_option maxHeartbeats 2000000 in
theorem l16Some_any (A : Option Addr) (n c : Nat) (f : Nat → SD) (r : Int) (hn : n ≤ 12) (hgd : goodNAll f n = true) (hr : inB r 1 1000 = true) : ∀ (m : Nat) (X : List Int) (i b2 c2 : Nat) (w : World) (_ : SlSD w A n f) (_ : SlI w (some ⟨b2, 0, none⟩) X.length (fun i => X.getD i 0)) (_ : fndB f n (fun i => X.getD i 0) X.length = true) (_ : X.length + m ≤ 10) (_ : i ≤ n),
    Calls Try.prog 70 #[.slice A n c, .slice (some ⟨b2, 0, none⟩) X.length c2, .int .i64 i, .int .i64 m, .int .i64 r] w fun e w' => e = .returned (.bool (someN f n r m X i)) ∧ Below w.heap.size w w' := by
  intro m
  induction m with
  | zero =>
    intro X i b2 c2 w hS hX hfnd hlen hi
    have HT := Lib.hid (l16Open_any A n c f (some ⟨b2, 0, none⟩) X.length c2 (fun i => X.getD i 0) r w hS hX (by omega) (by omega) hgd hfnd hr)
    have HV : Hid (someN f n r 0 X i = decide ((openL f n (fun i => X.getD i 0) X.length r).length = 0)) := safe_open
    clear hX hfnd hgd hr
    obtain ⟨ol, hol⟩ : ∃ ol, ol = (openL f n (fun i => X.getD i 0) X.length r).length := ⟨_, rfl⟩
    have HO := Lib.hid hol
    clear hol
    go_enter Try.func70, Try.ntmps70
    go_wp2_with fail
    refine HT.out.mono ?_
    rintro e w3 ⟨A7, c7, rfl, -, hbw3⟩
    rw [← HO.out]
    rcases Nat.eq_zero_or_pos ol with rfl | hp
    · go_wp2
      go_ret
      exact ⟨by rw [HV.out, ← HO.out]; rfl, hbw3⟩
    · have hob : ((ol : Int) == 0) = false := by simp; omega
      have hof : decide (ol = 0) = false := decide_eq_false (by omega)
      go_wp2
      go_loopw [11] (fun v11 wr => v11 = .int .i64 i ∧ wr = w3) (fun _ _ => 0)
      case atStart => exact ⟨rfl, rfl⟩
      case round =>
        obtain ⟨rfl, rfl⟩ := hrel
        by_cases hin : i < n
        · go_wp2
          go_ret
          exact ⟨by rw [HV.out, ← HO.out, hof]; rfl, hbw3⟩
        · go_wp2
          go_ret
          exact ⟨by rw [HV.out, ← HO.out, hof]; rfl, hbw3⟩
  | succ m ih =>
    intro X i b2 c2 w hS hX hfnd hlen hi
    have HT := Lib.hid (l16Open_any A n c f (some ⟨b2, 0, none⟩) X.length c2 (fun i => X.getD i 0) r w hS hX (by omega) (by omega) hgd hfnd hr)
    have HV : Hid (safeX f n r X = decide ((openL f n (fun i => X.getD i 0) X.length r).length = 0)) := safe_open
    have HIH := Lib.hid ih
    have HFA := Lib.hid (fun k (hk : k < n) => fnd_app hfnd hk)
    have HS := Lib.hid hS
    have HX := Lib.hid hX
    obtain ⟨i0, hi0, hz0, hz1, hz2⟩ := info_parts int1_info
    clear hX hfnd hgd hr hS ih
    obtain ⟨ol, hol⟩ : ∃ ol, ol = (openL f n (fun i => X.getD i 0) X.length r).length := ⟨_, rfl⟩
    have HO := Lib.hid hol
    clear hol
    go_enter Try.func70, Try.ntmps70
    go_wp2_with fail
    refine HT.out.mono ?_
    rintro e w3 ⟨A7, c7, rfl, -, hbw3⟩
    rw [← HO.out]
    have hz3 := hbw3.size
    rcases Nat.eq_zero_or_pos ol with rfl | hp
    · go_wp2
      go_ret
      rw [Some_safe (by rw [HV.out, ← HO.out]; rfl)]
      exact ⟨rfl, hbw3⟩
    · have hob : ((ol : Int) == 0) = false := by simp; omega
      have HF : Hid (safeX f n r X = false) := by show _ = _; rw [HV.out, ← HO.out]; exact decide_eq_false (by omega)
      go_wp2
      go_loopw [11] (fun v11 wr => ∃ k : Nat, i ≤ k ∧ k ≤ n ∧ v11 = .int .i64 k ∧ Hid (∀ j, i ≤ j → j < k → someN f n r m (X ++ [(f j).id]) (j + 1) = false) ∧ Below w.heap.size w wr) (fun v11 _ => n - (intOf v11).toNat)
      case atStart => exact ⟨i, Nat.le_refl _, hi, rfl, fun j h1 h2 => absurd h1 (by omega), hbw3⟩
      case round =>
        obtain ⟨k, hik, hk, rfl, hall, hbr⟩ := hrel
        have hzr := hbr.size
        by_cases hlt : k < n
        · obtain ⟨b, off, rfl, hbl, hbl', x0, -⟩ := HS.out.at hbr hlt
          have HBR := Lib.hid hbr
          obtain ⟨z, hz⟩ : ∃ z, z = (f k).id := ⟨_, rfl⟩
          have HIK := fun b6 c6 base W (hb : Below w.heap.size w W) (hO : W.ownsRow base 3 1 (.slice (some ⟨b6, 0, none⟩) (X.length + 1) c6) (X.length + 1) ((X ++ [z]).map (Value.int .i64))) => show Calls Try.prog 70 #[.slice (some ⟨b, off, none⟩) n c, .slice (some ⟨b6, 0, none⟩) (X.length + 1) c6, .int .i64 (IntKind.i64.wrap ((k : Int) + 1)), .int .i64 (IntKind.i64.wrap (m : Int)), .int .i64 r] W fun e w' => e = .returned (.bool (someN f n r m (X ++ [z]) (k + 1))) ∧ Below W.heap.size W w' from by
            have e1 : (X ++ [z]).length = X.length + 1 := by simp
            have e2 : IntKind.i64.wrap ((k : Int) + 1) = ((k + 1 : Nat) : Int) := by rw [IntKind.wrap_i64]; omega
            have e3 : IntKind.i64.wrap (m : Int) = (m : Int) := by rw [IntKind.wrap_i64]; omega
            rw [e2, e3]
            have h := HIH.out (X ++ [z]) (k + 1) b6 c6 W (HS.out.below hb) (by rw [e1]; exact (ownI_of e1.symm hO).sl) (by rw [hz]; exact HFA.out k hlt) (by rw [e1]; omega) (by omega)
            rw [e1] at h
            exact h
          have HXW := Lib.hid (fun W (hb : Below w.heap.size w W) => l1Own_any b2 0 X.length c2 (fun i => X.getD i 0) W (HX.out.below hb) (by omega))
          have HA := Lib.hid (fun h => Some_true (f := f) (n := n) (r := r) (m := m) (X := X) hlt hik h)
          rw [← hz] at x0 HA
          have HZ := Lib.hid hz
          clear hz
          rcases Bool.eq_false_or_eq_true (someN f n r m (X ++ [z]) (k + 1)) with hq | hq
          · rw [hq] at HIK
            have HIK := Lib.hid HIK
            have HT2 := Lib.hid (HA.out hq)
            clear hq
            go_wp2_with fail
            go_region_law (first
                  | (go_simp; go_at_call 99; refine (HXW.out _ (by repeat' (first | (with_reducible exact Below.refl _ _) | (with_reducible assumption) | (with_reducible refine Below.alloc ?_ ?_ _) | (with_reducible refine Below.drew ?_) | (with_reducible refine Below.setCell ?_ ?_ _) | (with_reducible refine Below.stepB (by assumption) ?_ ?_) | go_size))).mono ?_; rintro e w5 ⟨v5, rfl, hO5, hbw5⟩; obtain ⟨hzw5, hcw5, hfw5⟩ := bfacts hbw5; (try simp at hzw5 hcw5 hfw5); (try (have : w.heap.size < w5.heap.size := by omega)); (try (have : w.heap.size + 1 < w5.heap.size := by omega)); (try (have : w.heap.size + 1 + 1 < w5.heap.size := by omega)); (try (have : w.heap.size + 1 + 1 + 1 < w5.heap.size := by omega)); have HB5 := Lib.hid (show Below w.heap.size w w5 from by repeat' (first | (with_reducible exact Below.refl _ _) | (with_reducible assumption) | (with_reducible refine Below.alloc ?_ ?_ _) | (with_reducible refine Below.drew ?_) | (with_reducible refine Below.setCell ?_ ?_ _) | (with_reducible refine Below.stepB (by assumption) ?_ ?_) | go_size)); (try (have hBf5 : Blk w5 wr.heap.size 3 #[.int .i64 z] := Blk.below (Blk.drew (blk_newN wr _ _ rfl)) hbw5 (by simp))); clear hbw5)
                  | (go_simp; go_at_call 70; refine (HIK.out b6 c6 _ _ HB6.out hO6).mono ?_; rintro e w7 ⟨rfl, hb7⟩; have HB7 := Lib.hid (HB6.out.trans (hb7.mono HB6.out.size)); clear hb7)
                  | (refine step_append_rowG (by rfl) _ _ 23 (by rfl) _ 3 i0 _ 1 8 Try.underlying23 hi0 hz0 hz1 hz2 (by rfl) (by decide) v5 X.length (flatG 1 (cellI fun i => X.getD i 0) X.length) (by rfl) (by first | exact hO5 | exact hO5.alloc _) _ 0 1 1 (fun _ _ => .int .i64 z) (by rfl) ?_ (fun _ _ => rfl) (by omega) (by decide) ?_ ?_; go_loud (focus first | exact int_at0 hBf5 | exact int_at0 (blk_newN w5 _ _ rfl)); go_loud (focus first | omega | (simp; omega) | (simp; done)); intro v6 w6 hO6 hb6 hk6; clear hk6; have HB6 := Lib.hid (show Below w.heap.size w w6 from by first | exact HB5.out.trans (hb6.mono (by first | omega | (simp; omega))) | exact (Below.alloc HB5.out (by omega) _).trans (hb6.mono (by first | omega | (simp; omega)))); clear hb6; rw [flat_app] at hO6; obtain ⟨b6, c6, rfl⟩ := ownsRow_pos hO6 (Nat.succ_pos _); skip))
            all_goals
              go_wp2
              go_ret
              rw [HT2.out]
              exact ⟨rfl, HB7.out⟩
          · have HQ := Lib.hid hq
            rw [hq] at HIK
            have HIK := Lib.hid HIK
            clear hq
            go_wp2_with fail
            go_region_law (first
                  | (go_simp; go_at_call 99; refine (HXW.out _ (by repeat' (first | (with_reducible exact Below.refl _ _) | (with_reducible assumption) | (with_reducible refine Below.alloc ?_ ?_ _) | (with_reducible refine Below.drew ?_) | (with_reducible refine Below.setCell ?_ ?_ _) | (with_reducible refine Below.stepB (by assumption) ?_ ?_) | go_size))).mono ?_; rintro e w5 ⟨v5, rfl, hO5, hbw5⟩; obtain ⟨hzw5, hcw5, hfw5⟩ := bfacts hbw5; (try simp at hzw5 hcw5 hfw5); (try (have : w.heap.size < w5.heap.size := by omega)); (try (have : w.heap.size + 1 < w5.heap.size := by omega)); (try (have : w.heap.size + 1 + 1 < w5.heap.size := by omega)); (try (have : w.heap.size + 1 + 1 + 1 < w5.heap.size := by omega)); have HB5 := Lib.hid (show Below w.heap.size w w5 from by repeat' (first | (with_reducible exact Below.refl _ _) | (with_reducible assumption) | (with_reducible refine Below.alloc ?_ ?_ _) | (with_reducible refine Below.drew ?_) | (with_reducible refine Below.setCell ?_ ?_ _) | (with_reducible refine Below.stepB (by assumption) ?_ ?_) | go_size)); (try (have hBf5 : Blk w5 wr.heap.size 3 #[.int .i64 z] := Blk.below (Blk.drew (blk_newN wr _ _ rfl)) hbw5 (by simp))); clear hbw5)
                  | (go_simp; go_at_call 70; refine (HIK.out b6 c6 _ _ HB6.out hO6).mono ?_; rintro e w7 ⟨rfl, hb7⟩; have HB7 := Lib.hid (HB6.out.trans (hb7.mono HB6.out.size)); clear hb7)
                  | (refine step_append_rowG (by rfl) _ _ 23 (by rfl) _ 3 i0 _ 1 8 Try.underlying23 hi0 hz0 hz1 hz2 (by rfl) (by decide) v5 X.length (flatG 1 (cellI fun i => X.getD i 0) X.length) (by rfl) (by first | exact hO5 | exact hO5.alloc _) _ 0 1 1 (fun _ _ => .int .i64 z) (by rfl) ?_ (fun _ _ => rfl) (by omega) (by decide) ?_ ?_; go_loud (focus first | exact int_at0 hBf5 | exact int_at0 (blk_newN w5 _ _ rfl)); go_loud (focus first | omega | (simp; omega) | (simp; done)); intro v6 w6 hO6 hb6 hk6; clear hk6; have HB6 := Lib.hid (show Below w.heap.size w w6 from by first | exact HB5.out.trans (hb6.mono (by first | omega | (simp; omega))) | exact (Below.alloc HB5.out (by omega) _).trans (hb6.mono (by first | omega | (simp; omega)))); clear hb6; rw [flat_app] at hO6; obtain ⟨b6, c6, rfl⟩ := ownsRow_pos hO6 (Nat.succ_pos _); skip))
            all_goals
              go_wp2
              go_roundw
              case rel =>
                refine ⟨k + 1, by omega, by omega, by go_num, fun j h1 h2 => ?_, HB7.out⟩
                rcases Nat.lt_or_ge j k with h3 | h3
                · exact hall.out j h1 h3
                · have : j = k := by omega
                  rw [this, ← HZ.out]
                  exact HQ.out
              case measure => simp [intOf]; omega
        · obtain rfl : k = n := by omega
          go_wp2
          go_ret
          rw [Some_false HF.out (fun j h1 h2 => hall.out j h1 h2)]
          exact ⟨rfl, hbr⟩
end Go.Proofs.Ytakkgagdbmlafaa
