/- Contract: a number put to its place in a list of one's own (the reference's). -/
import Derived.Test.YtakkgagdbmlafaaShoP
import Derived.Test.YtakkgagdbmlafaaSelI
namespace Go.Proofs.Ytakkgagdbmlafaa
open Go.RowKit
theorem blk_newN {g : Nat} (w : World) (t : TypeId) (cs : Array Value) (hg : g = w.heap.size) : Blk (w.alloc (.cells cs t)) g t cs := by
  subst hg
  exact Blk.new w t cs
theorem ownsRow_blk {w : World} {base : Nat} {e : TypeId} {k g : Nat} (h : Blk w g e #[]) (hb : base ≤ g) : w.ownsRow base e k (.slice (some ⟨g, 0, none⟩) 0 0) 0 [] :=
  ⟨by simp, .inr ⟨g, 0, #[], rfl, hb, h, Nat.le_refl _, Nat.zero_le _, by simp, by simp⟩⟩
theorem flat_put {Y : List Int} {x : Int} {k : Nat} (hk : k ≤ Y.length) (hp : posL Y x = k) :
    (flatG 1 (fun q _ => Value.int .i64 (Y.getD q 0)) k ++ flatG 1 (fun _ _ => Value.int .i64 x) 1) ++ flatG 1 (fun q _ => Value.int .i64 (Y.getD (k + q) 0)) (Y.length - k) = (putL Y x).map (Value.int .i64) := by
  have e1 : flatG 1 (fun q _ => Value.int .i64 (Y.getD q 0)) k = (Y.take k).map (Value.int .i64) := by
    refine List.ext_getElem? (fun q => ?_)
    by_cases hq : q < k
    · have h := flatG_get (k := 1) (g := fun q _ => Value.int .i64 (Y.getD q 0)) (n := k) (i := q) (j := 0) hq (by decide)
      simp only [Nat.mul_one, Nat.add_zero] at h
      rw [h, List.getElem?_map, List.getElem?_take_of_lt hq]
      simp [List.getD, show q < Y.length by omega]
    · rw [List.getElem?_eq_none (by rw [flatG_len]; omega), List.getElem?_eq_none (by simp; omega)]
  have e2 : flatG 1 (fun _ _ => Value.int .i64 x) 1 = [.int .i64 x] := rfl
  have e3 : flatG 1 (fun q _ => Value.int .i64 (Y.getD (k + q) 0)) (Y.length - k) = (Y.drop k).map (Value.int .i64) := by
    refine List.ext_getElem? (fun q => ?_)
    by_cases hq : q < Y.length - k
    · have h := flatG_get (k := 1) (g := fun q _ => Value.int .i64 (Y.getD (k + q) 0)) (n := Y.length - k) (i := q) (j := 0) hq (by decide)
      simp only [Nat.mul_one, Nat.add_zero] at h
      rw [h, List.getElem?_map, List.getElem?_drop]
      simp [List.getD, show k + q < Y.length by omega]
    · rw [List.getElem?_eq_none (by rw [flatG_len]; omega), List.getElem?_eq_none (by simp; omega)]
  rw [e1, e2, e3, putL_at, hp]
  simp
theorem own_put {w : World} {base base' : Nat} {e : TypeId} {v : Value} {Y : List Int} {x : Int} {n k : Nat} (h : w.ownsRow base e 1 v (k + 1 + (n - k)) ((flatG 1 (fun q _ => Value.int .i64 (Y.getD q 0)) k ++ flatG 1 (fun _ _ => Value.int .i64 x) 1) ++ flatG 1 (fun q _ => Value.int .i64 (Y.getD (k + q) 0)) (n - k)))
    (hb : base' ≤ base) (hn : n = Y.length) (hk : k ≤ n) (hp : posL Y x = k) : w.ownsRow base' e 1 v (putL Y x).length ((putL Y x).map (Value.int .i64)) := by
  subst hn
  rw [flat_put hk hp] at h
  rw [putL_len]
  rw [show k + 1 + (Y.length - k) = Y.length + 1 by omega] at h
  exact ⟨h.1, h.2.imp id fun ⟨g, cap, cur, hv, hg, r⟩ => ⟨g, cap, cur, hv, Nat.le_trans hb hg, r⟩⟩
theorem int_at0 {w : World} {g : Nat} {t : TypeId} {x : Int} (h : Blk w g t #[.int .i64 x]) : ∀ i j, i < 1 → j < 1 → w.cell? ⟨g, 0 + i * 1 + j, none⟩ = some (Value.int .i64 x) := fun i j hi hj => by
  obtain rfl : i = 0 := by omega
  obtain rfl : j = 0 := by omega
  exact h.cell 0
set_option maxRecDepth 100000 in
set_option maxHeartbeats 1000000 in
theorem l1Put_any (b c : Nat) (Y : List Int) (x : Int) (w : World) (hS : SlI w (some ⟨b, 0, none⟩) Y.length (fun i => Y.getD i 0)) (hb : b < w.heap.size) (hnc : Y.length ≤ c) (hn : Y.length ≤ 1000000) (hx : x ∉ Y) :
    Calls Try.prog 68 #[.slice (some ⟨b, 0, none⟩) Y.length c, .int .i64 x] w
    fun e w' => ∃ v, e = .returned v ∧ w'.ownsRow w.heap.size 3 1 v (putL Y x).length ((putL Y x).map (Value.int .i64)) ∧ Below w.heap.size w w' := by
  obtain ⟨i0, hi0, hz0, hz1, hz2⟩ := info_parts int1_info
  have HS := Lib.hid hS
  have HX := Lib.hid (fun i (hi : i < Y.length) (h : Y.getD i 0 = x) => hx (by rw [← h]; simp [List.getD, hi]))
  have HNC := Lib.hid hnc
  clear hS hx
  obtain ⟨n, hn0⟩ : ∃ n, n = Y.length := ⟨_, rfl⟩
  have HN := Lib.hid hn0
  rw [← hn0] at hn hnc ⊢
  clear hn0
  go_enter Try.func68, Try.ntmps68
  go_wp2
  go_loopw [5] (fun v5 wr => ∃ k : Nat, k ≤ n ∧ v5 = .int .i64 k ∧ Hid (∀ i, i < k → Y.getD i 0 < x) ∧ Below w.heap.size w wr) (fun v5 _ => n - (intOf v5).toNat)
  case atStart => exact ⟨0, Nat.zero_le _, rfl, fun i hi => absurd hi (Nat.not_lt_zero _), by repeat' (first | (with_reducible exact Below.refl _ _) | (with_reducible assumption) | (with_reducible refine Below.alloc ?_ ?_ _) | (with_reducible refine Below.drew ?_) | (with_reducible refine Below.setCell ?_ ?_ _) | (with_reducible refine Below.stepB (by assumption) ?_ ?_) | go_size)⟩
  case round =>
    obtain ⟨k, hk, rfl, hall, hbr⟩ := hrel
    have hzr := hbr.size
    have hbr2 : b < wr.heap.size := by omega
    have HC := Lib.hid (fun (W : World) (hb : Below wr.heap.size wr W) (q j : Nat) (hq : q < n) (hj : j < 1) => show W.cell? ⟨b, 0 + q * 1 + j, none⟩ = some (.int .i64 (Y.getD q 0)) from by
      obtain ⟨b1, o1, e1, _, hc⟩ := (Sl.below HS.out (hbr.trans (hb.mono (by omega)))) (by rw [← HN.out]; omega)
      obtain ⟨rfl, rfl⟩ : b = b1 ∧ 0 = o1 := by simpa using e1
      exact hc q j (by rw [← HN.out]; exact hq) hj)
    by_cases hlt : k < n
    · have hx0 : wr.cell? ⟨b, k, none⟩ = some (.int .i64 (Y.getD k 0)) := by simpa using HC.out wr (Below.refl _ _) k 0 hlt (by decide)
      by_cases hc : Y.getD k 0 < x
      · have hall2 : Hid (∀ i, i < k + 1 → Y.getD i 0 < x) := fun i hi => by
          rcases Nat.lt_or_ge i k with h1 | h1
          · exact hall.out i h1
          · have : i = k := by omega
            rw [this]
            exact hc
        have hd : decide (Y.getD k 0 < x) = true := decide_eq_true hc
        clear hc
        generalize Y.getD k 0 = y at hx0 hd
        go_wp2
        go_roundw
        case rel => exact ⟨k + 1, by omega, by go_num, hall2, by repeat' (first | (with_reducible exact Below.refl _ _) | (with_reducible assumption) | (with_reducible refine Below.alloc ?_ ?_ _) | (with_reducible refine Below.drew ?_) | (with_reducible refine Below.setCell ?_ ?_ _) | (with_reducible refine Below.stepB (by assumption) ?_ ?_) | go_size)⟩
        case measure => simp [intOf]; omega
      · have HP : Hid (posL Y x = k) := posL_eq Y x k (by rw [← HN.out]; omega) hall.out (.inr hc)
        have hne := HX.out k (by rw [← HN.out]; exact hlt)
        have hd : decide (Y.getD k 0 < x) = false := decide_eq_false hc
        have hd2 : (Y.getD k 0 == x) = false := by simpa using hne
        clear hc hne
        generalize Y.getD k 0 = y at hx0 hd hd2
        have hkc : k ≤ c := by omega
        go_wp2_with fail
        by_cases hck : c = k
        · omega
        skip
        go_region_law (first
              | (refine step_append_rowG (by rfl) _ _ 23 (by rfl) wr.heap.size 3 i0 _ 1 8 Try.underlying23 hi0 hz0 hz1 hz2 (by rfl) (by decide) (.slice (some ⟨wr.heap.size, 0, none⟩) 0 0) 0 [] (by rfl) ?_ b 0 k c (fun q _ => .int .i64 (Y.getD q 0)) (by rfl) ?_ (fun _ _ => rfl) (by omega) (by decide) ?_ ?_; go_must (focus first | exact ownsRow_blk (Blk.drew (blk_newN wr _ _ rfl)) (Nat.le_refl _) | exact ownsRow_blk (Blk.drew ((blk_newN wr _ _ rfl).alloc _)) (Nat.le_refl _)); go_loud (focus exact fun q j hq hj => HC.out _ (by repeat' (first | (with_reducible exact Below.refl _ _) | (with_reducible assumption) | (with_reducible refine Below.alloc ?_ ?_ _) | (with_reducible refine Below.drew ?_) | (with_reducible refine Below.setCell ?_ ?_ _) | (with_reducible refine Below.stepB (by assumption) ?_ ?_) | go_size)) q j (by omega) hj); go_loud (focus first | omega | (simp; omega) | (simp; done)); intro v5 w5 hO5 hb5 hk5; rw [Nat.zero_add, List.nil_append] at hO5; obtain ⟨A5, c5, rfl⟩ := ownsRow_form hO5; have hz5 := hb5.size; (try simp at hz5); (try (have hBf5 : Blk w5 (wr.heap.size + 1) 3 #[.int .i64 x] := (hk5 _ (by first | (simp; done) | (simp; omega)) (by simp [Value.ownBlock])).trans (show Blk ((wr.alloc (.cells #[] 3)).alloc (.cells #[.int .i64 x] 3)).drew (wr.heap.size + 1) 3 #[.int .i64 x] from Blk.drew (blk_newN (wr.alloc (.cells #[] 3)) _ _ (by simp))))); clear hk5)
              | (refine step_append_rowG (by rfl) _ _ 23 (by rfl) wr.heap.size 3 i0 _ 1 8 Try.underlying23 hi0 hz0 hz1 hz2 (by rfl) (by decide) (.slice (some ⟨wr.heap.size + 1, 0, none⟩) 0 0) 0 [] (by rfl) ?_ b 0 k c (fun q _ => .int .i64 (Y.getD q 0)) (by rfl) ?_ (fun _ _ => rfl) (by omega) (by decide) ?_ ?_; go_must (focus exact ownsRow_blk (Blk.drew (blk_newN _ _ _ (by simp))) (by omega)); go_loud (focus exact fun q j hq hj => HC.out _ (by repeat' (first | (with_reducible exact Below.refl _ _) | (with_reducible assumption) | (with_reducible refine Below.alloc ?_ ?_ _) | (with_reducible refine Below.drew ?_) | (with_reducible refine Below.setCell ?_ ?_ _) | (with_reducible refine Below.stepB (by assumption) ?_ ?_) | go_size)) q j (by omega) hj); go_loud (focus first | omega | (simp; omega) | (simp; done)); intro v5 w5 hO5 hb5 hk5; rw [Nat.zero_add, List.nil_append] at hO5; obtain ⟨A5, c5, rfl⟩ := ownsRow_form hO5; have hz5 := hb5.size; (try simp at hz5); (try (have hBf5 : Blk w5 wr.heap.size 3 #[.int .i64 x] := (hk5 _ (by first | (simp; done) | (simp; omega)) (by simp [Value.ownBlock])).trans (show Blk ((wr.alloc (.cells #[.int .i64 x] 3)).alloc (.cells #[] 3)).drew wr.heap.size 3 #[.int .i64 x] from Blk.drew ((blk_newN wr _ _ rfl).alloc _)))); clear hk5)
              | (refine step_append_rowG (by rfl) _ _ 23 (by rfl) wr.heap.size 3 i0 _ 1 8 Try.underlying23 hi0 hz0 hz1 hz2 (by rfl) (by decide) _ k (flatG 1 (fun q _ => .int .i64 (Y.getD q 0)) k) (by rfl) ?_ _ 0 1 1 (fun _ _ => .int .i64 x) (by rfl) ?_ (fun _ _ => rfl) (by omega) (by decide) ?_ ?_; go_loud (focus first | exact hO5 | exact ownsRow_below hO5 (Below.alloc (Below.refl _ _) (Nat.le_refl _) _)); go_loud (focus first | exact int_at0 hBf5 | exact int_at0 (blk_newN w5 _ _ rfl)); go_loud (focus first | omega | (simp; omega) | (simp; done)); intro v6 w6 hO6 hb6 hk6; clear hk6; obtain ⟨A6, c6, rfl⟩ := ownsRow_form hO6; have hz6 := hb6.size; (try simp at hz6))
              | (refine step_append_rowG (by rfl) _ _ 23 (by rfl) wr.heap.size 3 i0 _ 1 8 Try.underlying23 hi0 hz0 hz1 hz2 (by rfl) (by decide) _ (k + 1) (flatG 1 (fun q _ => .int .i64 (Y.getD q 0)) k ++ flatG 1 (fun _ _ => .int .i64 x) 1) (by rfl) ?_ b k (n - k) (c - k) (fun q _ => .int .i64 (Y.getD (k + q) 0)) (by rfl) ?_ (fun _ _ => rfl) (by omega) (by decide) ?_ ?_; go_loud (focus exact hO6); go_loud (focus (intro q j hq hj; (have h := HC.out w6 (show Below wr.heap.size wr w6 from by repeat' (first | (with_reducible exact Below.refl _ _) | (with_reducible assumption) | (with_reducible refine Below.alloc ?_ ?_ _) | (with_reducible refine Below.drew ?_) | (with_reducible refine Below.setCell ?_ ?_ _) | (with_reducible refine Below.stepB (by assumption) ?_ ?_) | go_size)) (k + q) j (by omega) hj; rwa [show 0 + (k + q) * 1 + j = k + q * 1 + j by omega] at h))); go_loud (focus omega); intro v7 w7 hO7 hb7 hk7; clear hk7; have hz7 := hb7.size))
        all_goals
          have HB := Lib.hid (show Below w.heap.size w w7 from hbr.trans ((show Below wr.heap.size wr w7 from by repeat' (first | (with_reducible exact Below.refl _ _) | (with_reducible assumption) | (with_reducible refine Below.alloc ?_ ?_ _) | (with_reducible refine Below.drew ?_) | (with_reducible refine Below.setCell ?_ ?_ _) | (with_reducible refine Below.stepB (by assumption) ?_ ?_) | go_size)).mono (by omega)))
          have HO := Lib.hid (own_put (base' := w.heap.size) hO7 (by omega) HN.out hk HP.out)
          clear hO7 hb7
          go_wp2
          go_ret
          exact ⟨_, rfl, HO.out, HB.out⟩
    · obtain rfl : k = n := by omega
      have HP : Hid (posL Y x = k) := posL_eq Y x k (by rw [← HN.out]; omega) hall.out (.inl HN.out)
      clear hlt hk
      go_wp2_with fail
      by_cases hck : c = k
      · obtain rfl : k = c := hck.symm
        skip
        go_region_law (first
              | (refine step_append_rowG (by rfl) _ _ 23 (by rfl) wr.heap.size 3 i0 _ 1 8 Try.underlying23 hi0 hz0 hz1 hz2 (by rfl) (by decide) (.slice (some ⟨wr.heap.size, 0, none⟩) 0 0) 0 [] (by rfl) ?_ b 0 k k (fun q _ => .int .i64 (Y.getD q 0)) (by rfl) ?_ (fun _ _ => rfl) (by omega) (by decide) ?_ ?_; go_must (focus first | exact ownsRow_blk (Blk.drew (blk_newN wr _ _ rfl)) (Nat.le_refl _) | exact ownsRow_blk (Blk.drew ((blk_newN wr _ _ rfl).alloc _)) (Nat.le_refl _)); go_loud (focus exact fun q j hq hj => HC.out _ (by repeat' (first | (with_reducible exact Below.refl _ _) | (with_reducible assumption) | (with_reducible refine Below.alloc ?_ ?_ _) | (with_reducible refine Below.drew ?_) | (with_reducible refine Below.setCell ?_ ?_ _) | (with_reducible refine Below.stepB (by assumption) ?_ ?_) | go_size)) q j (by omega) hj); go_loud (focus first | omega | (simp; omega) | (simp; done)); intro v5 w5 hO5 hb5 hk5; rw [Nat.zero_add, List.nil_append] at hO5; obtain ⟨A5, c5, rfl⟩ := ownsRow_form hO5; have hz5 := hb5.size; (try simp at hz5); (try (have hBf5 : Blk w5 (wr.heap.size + 1) 3 #[.int .i64 x] := (hk5 _ (by first | (simp; done) | (simp; omega)) (by simp [Value.ownBlock])).trans (show Blk ((wr.alloc (.cells #[] 3)).alloc (.cells #[.int .i64 x] 3)).drew (wr.heap.size + 1) 3 #[.int .i64 x] from Blk.drew (blk_newN (wr.alloc (.cells #[] 3)) _ _ (by simp))))); clear hk5)
              | (refine step_append_rowG (by rfl) _ _ 23 (by rfl) wr.heap.size 3 i0 _ 1 8 Try.underlying23 hi0 hz0 hz1 hz2 (by rfl) (by decide) (.slice (some ⟨wr.heap.size + 1, 0, none⟩) 0 0) 0 [] (by rfl) ?_ b 0 k k (fun q _ => .int .i64 (Y.getD q 0)) (by rfl) ?_ (fun _ _ => rfl) (by omega) (by decide) ?_ ?_; go_must (focus exact ownsRow_blk (Blk.drew (blk_newN _ _ _ (by simp))) (by omega)); go_loud (focus exact fun q j hq hj => HC.out _ (by repeat' (first | (with_reducible exact Below.refl _ _) | (with_reducible assumption) | (with_reducible refine Below.alloc ?_ ?_ _) | (with_reducible refine Below.drew ?_) | (with_reducible refine Below.setCell ?_ ?_ _) | (with_reducible refine Below.stepB (by assumption) ?_ ?_) | go_size)) q j (by omega) hj); go_loud (focus first | omega | (simp; omega) | (simp; done)); intro v5 w5 hO5 hb5 hk5; rw [Nat.zero_add, List.nil_append] at hO5; obtain ⟨A5, c5, rfl⟩ := ownsRow_form hO5; have hz5 := hb5.size; (try simp at hz5); (try (have hBf5 : Blk w5 wr.heap.size 3 #[.int .i64 x] := (hk5 _ (by first | (simp; done) | (simp; omega)) (by simp [Value.ownBlock])).trans (show Blk ((wr.alloc (.cells #[.int .i64 x] 3)).alloc (.cells #[] 3)).drew wr.heap.size 3 #[.int .i64 x] from Blk.drew ((blk_newN wr _ _ rfl).alloc _)))); clear hk5)
              | (refine step_append_rowG (by rfl) _ _ 23 (by rfl) wr.heap.size 3 i0 _ 1 8 Try.underlying23 hi0 hz0 hz1 hz2 (by rfl) (by decide) _ k (flatG 1 (fun q _ => .int .i64 (Y.getD q 0)) k) (by rfl) ?_ _ 0 1 1 (fun _ _ => .int .i64 x) (by rfl) ?_ (fun _ _ => rfl) (by omega) (by decide) ?_ ?_; go_loud (focus first | exact hO5 | exact ownsRow_below hO5 (Below.alloc (Below.refl _ _) (Nat.le_refl _) _)); go_loud (focus first | exact int_at0 hBf5 | exact int_at0 (blk_newN w5 _ _ rfl)); go_loud (focus first | omega | (simp; omega) | (simp; done)); intro v6 w6 hO6 hb6 hk6; clear hk6; obtain ⟨A6, c6, rfl⟩ := ownsRow_form hO6; have hz6 := hb6.size; (try simp at hz6))
              | (refine step_append_rowG (by rfl) _ _ 23 (by rfl) wr.heap.size 3 i0 _ 1 8 Try.underlying23 hi0 hz0 hz1 hz2 (by rfl) (by decide) _ (k + 1) (flatG 1 (fun q _ => .int .i64 (Y.getD q 0)) k ++ flatG 1 (fun _ _ => .int .i64 x) 1) (by rfl) ?_ b 0 0 0 (fun q _ => .int .i64 (Y.getD (k + q) 0)) (by rfl) ?_ (fun _ _ => rfl) (by omega) (by decide) ?_ ?_; go_loud (focus exact hO6); go_loud (focus (intro q j hq hj; exact absurd hq (by omega))); go_loud (focus omega); intro v7 w7 hO7 hb7 hk7; clear hk7; have hz7 := hb7.size))
        all_goals
          have HB := Lib.hid (show Below w.heap.size w w7 from hbr.trans ((show Below wr.heap.size wr w7 from by repeat' (first | (with_reducible exact Below.refl _ _) | (with_reducible assumption) | (with_reducible refine Below.alloc ?_ ?_ _) | (with_reducible refine Below.drew ?_) | (with_reducible refine Below.setCell ?_ ?_ _) | (with_reducible refine Below.stepB (by assumption) ?_ ?_) | go_size)).mono (by omega)))
          have HO := Lib.hid (own_put (base' := w.heap.size) (n := k) (by rw [Nat.sub_self]; exact hO7) (by omega) HN.out (Nat.le_refl _) HP.out)
          clear hO7 hb7
          go_wp2
          go_ret
          exact ⟨_, rfl, HO.out, HB.out⟩
      · skip
        go_region_law (first
              | (refine step_append_rowG (by rfl) _ _ 23 (by rfl) wr.heap.size 3 i0 _ 1 8 Try.underlying23 hi0 hz0 hz1 hz2 (by rfl) (by decide) (.slice (some ⟨wr.heap.size, 0, none⟩) 0 0) 0 [] (by rfl) ?_ b 0 k c (fun q _ => .int .i64 (Y.getD q 0)) (by rfl) ?_ (fun _ _ => rfl) (by omega) (by decide) ?_ ?_; go_must (focus first | exact ownsRow_blk (Blk.drew (blk_newN wr _ _ rfl)) (Nat.le_refl _) | exact ownsRow_blk (Blk.drew ((blk_newN wr _ _ rfl).alloc _)) (Nat.le_refl _)); go_loud (focus exact fun q j hq hj => HC.out _ (by repeat' (first | (with_reducible exact Below.refl _ _) | (with_reducible assumption) | (with_reducible refine Below.alloc ?_ ?_ _) | (with_reducible refine Below.drew ?_) | (with_reducible refine Below.setCell ?_ ?_ _) | (with_reducible refine Below.stepB (by assumption) ?_ ?_) | go_size)) q j (by omega) hj); go_loud (focus first | omega | (simp; omega) | (simp; done)); intro v5 w5 hO5 hb5 hk5; rw [Nat.zero_add, List.nil_append] at hO5; obtain ⟨A5, c5, rfl⟩ := ownsRow_form hO5; have hz5 := hb5.size; (try simp at hz5); (try (have hBf5 : Blk w5 (wr.heap.size + 1) 3 #[.int .i64 x] := (hk5 _ (by first | (simp; done) | (simp; omega)) (by simp [Value.ownBlock])).trans (show Blk ((wr.alloc (.cells #[] 3)).alloc (.cells #[.int .i64 x] 3)).drew (wr.heap.size + 1) 3 #[.int .i64 x] from Blk.drew (blk_newN (wr.alloc (.cells #[] 3)) _ _ (by simp))))); clear hk5)
              | (refine step_append_rowG (by rfl) _ _ 23 (by rfl) wr.heap.size 3 i0 _ 1 8 Try.underlying23 hi0 hz0 hz1 hz2 (by rfl) (by decide) (.slice (some ⟨wr.heap.size + 1, 0, none⟩) 0 0) 0 [] (by rfl) ?_ b 0 k c (fun q _ => .int .i64 (Y.getD q 0)) (by rfl) ?_ (fun _ _ => rfl) (by omega) (by decide) ?_ ?_; go_must (focus exact ownsRow_blk (Blk.drew (blk_newN _ _ _ (by simp))) (by omega)); go_loud (focus exact fun q j hq hj => HC.out _ (by repeat' (first | (with_reducible exact Below.refl _ _) | (with_reducible assumption) | (with_reducible refine Below.alloc ?_ ?_ _) | (with_reducible refine Below.drew ?_) | (with_reducible refine Below.setCell ?_ ?_ _) | (with_reducible refine Below.stepB (by assumption) ?_ ?_) | go_size)) q j (by omega) hj); go_loud (focus first | omega | (simp; omega) | (simp; done)); intro v5 w5 hO5 hb5 hk5; rw [Nat.zero_add, List.nil_append] at hO5; obtain ⟨A5, c5, rfl⟩ := ownsRow_form hO5; have hz5 := hb5.size; (try simp at hz5); (try (have hBf5 : Blk w5 wr.heap.size 3 #[.int .i64 x] := (hk5 _ (by first | (simp; done) | (simp; omega)) (by simp [Value.ownBlock])).trans (show Blk ((wr.alloc (.cells #[.int .i64 x] 3)).alloc (.cells #[] 3)).drew wr.heap.size 3 #[.int .i64 x] from Blk.drew ((blk_newN wr _ _ rfl).alloc _)))); clear hk5)
              | (refine step_append_rowG (by rfl) _ _ 23 (by rfl) wr.heap.size 3 i0 _ 1 8 Try.underlying23 hi0 hz0 hz1 hz2 (by rfl) (by decide) _ k (flatG 1 (fun q _ => .int .i64 (Y.getD q 0)) k) (by rfl) ?_ _ 0 1 1 (fun _ _ => .int .i64 x) (by rfl) ?_ (fun _ _ => rfl) (by omega) (by decide) ?_ ?_; go_loud (focus first | exact hO5 | exact ownsRow_below hO5 (Below.alloc (Below.refl _ _) (Nat.le_refl _) _)); go_loud (focus first | exact int_at0 hBf5 | exact int_at0 (blk_newN w5 _ _ rfl)); go_loud (focus first | omega | (simp; omega) | (simp; done)); intro v6 w6 hO6 hb6 hk6; clear hk6; obtain ⟨A6, c6, rfl⟩ := ownsRow_form hO6; have hz6 := hb6.size; (try simp at hz6))
              | (refine step_append_rowG (by rfl) _ _ 23 (by rfl) wr.heap.size 3 i0 _ 1 8 Try.underlying23 hi0 hz0 hz1 hz2 (by rfl) (by decide) _ (k + 1) (flatG 1 (fun q _ => .int .i64 (Y.getD q 0)) k ++ flatG 1 (fun _ _ => .int .i64 x) 1) (by rfl) ?_ b k 0 (c - k) (fun q _ => .int .i64 (Y.getD (k + q) 0)) (by rfl) ?_ (fun _ _ => rfl) (by omega) (by decide) ?_ ?_; go_loud (focus exact hO6); go_loud (focus (intro q j hq hj; exact absurd hq (by omega))); go_loud (focus omega); intro v7 w7 hO7 hb7 hk7; clear hk7; have hz7 := hb7.size))
        all_goals
          have HB := Lib.hid (show Below w.heap.size w w7 from hbr.trans ((show Below wr.heap.size wr w7 from by repeat' (first | (with_reducible exact Below.refl _ _) | (with_reducible assumption) | (with_reducible refine Below.alloc ?_ ?_ _) | (with_reducible refine Below.drew ?_) | (with_reducible refine Below.setCell ?_ ?_ _) | (with_reducible refine Below.stepB (by assumption) ?_ ?_) | go_size)).mono (by omega)))
          have HO := Lib.hid (own_put (base' := w.heap.size) (n := k) (by rw [Nat.sub_self]; exact hO7) (by omega) HN.out (Nat.le_refl _) HP.out)
          clear hO7 hb7
          go_wp2
          go_ret
          exact ⟨_, rfl, HO.out, HB.out⟩
end Go.Proofs.Ytakkgagdbmlafaa
