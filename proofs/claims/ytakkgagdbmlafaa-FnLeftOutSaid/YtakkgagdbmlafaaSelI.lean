/- Contracts: a copy of a list of numbers without one of them. -/
import Derived.Test.YtakkgagdbmlafaaSelH
import Derived.Test.YtakkgagdbmlafaaStepG
namespace Go.Proofs.Ytakkgagdbmlafaa
open Go.RowKit
theorem flat_wo {L : Nat → Int} {n i : Nat} (hi : i < n) : flatG 1 (cellI L) i ++ flatG 1 (fun q _ => .int .i64 (L (i + 1 + q))) (n - (i + 1)) = flatG 1 (cellI (woL L i)) (n - 1) := by
  refine List.ext_getElem? (fun q => ?_)
  by_cases hq : q < n - 1
  · have hr := flatG_get (k := 1) (g := cellI (woL L i)) (n := n - 1) (i := q) (j := 0) hq (by decide)
    simp only [Nat.mul_one, Nat.add_zero] at hr
    rw [hr]
    unfold cellI woL
    by_cases h : q < i
    · rw [if_pos h, List.getElem?_append_left (by rw [flatG_len]; omega)]
      have h2 := flatG_get (k := 1) (g := cellI L) (n := i) (i := q) (j := 0) h (by decide)
      simp only [Nat.mul_one, Nat.add_zero] at h2
      exact h2
    · rw [if_neg h, List.getElem?_append_right (by rw [flatG_len]; omega), flatG_len]
      have h2 := flatG_get (k := 1) (g := fun q _ => Value.int .i64 (L (i + 1 + q))) (n := n - (i + 1)) (i := q - i) (j := 0) (by omega) (by decide)
      simp only [Nat.mul_one, Nat.add_zero] at h2 ⊢
      rw [h2, show i + 1 + (q - i) = q + 1 by omega]
  · rw [List.getElem?_eq_none (by rw [List.length_append, flatG_len, flatG_len]; omega), List.getElem?_eq_none (by rw [flatG_len]; omega)]
theorem slI_take {w : World} {A : Option Addr} {n n' : Nat} {L : Nat → Int} (h : SlI w A n L) (hn : n' ≤ n) : SlI w A n' L := fun h0 => by
  obtain ⟨b, off, hA, hb, hc⟩ := h (by omega)
  exact ⟨b, off, hA, hb, fun i j hi hj => hc i j (by omega) hj⟩
set_option maxRecDepth 100000 in
set_option maxHeartbeats 1000000 in
theorem l16Without_any (b off n c i : Nat) (L : Nat → Int) (w : World) (hS : SlI w (some ⟨b, off, none⟩) n L) (hnc : n ≤ c) (hn : n ≤ 1048576) (hi : i < n) : Calls Try.prog 75 #[.slice (some ⟨b, off, none⟩) n c, .int .i64 i] w
    fun e w' => ∃ v, e = .returned v ∧ w'.ownsRow w.heap.size 3 1 v (n - 1) (flatG 1 (cellI (woL L i)) (n - 1)) ∧ Below w.heap.size w w' := by
  obtain ⟨i0, hi0, hz0, hz1, hz2⟩ := info_parts int1_info
  have HC := Lib.hid (fun (W : World) (hb : Below w.heap.size w W) (q : Nat) (hq : q < n) => show W.cell? ⟨b, off + q, none⟩ = some (.int .i64 (L q)) from by
    obtain ⟨b1, o1, e1, _, hc⟩ := (Sl.below hS hb) (by omega)
    obtain ⟨rfl, rfl⟩ : b = b1 ∧ off = o1 := by simpa using e1
    simpa using hc q 0 hq (by decide))
  have HT := Lib.hid (slI_take hS (show i ≤ n by omega))
  have h7 : (0 : Int) ≤ (i : Int) + 1 := by omega
  have h1 : (i : Int) + 1 ≤ n := by omega
  have h2 : ((i : Int) + 1).toNat = i + 1 := by omega
  have h3 : IntKind.i64.wrap ((i : Int) + 1) = (i : Int) + 1 := by rw [IntKind.wrap_i64]; omega
  have h4 : (i : Int) ≤ c := by omega
  have h5 : (i : Int) ≤ (i : Int) + 1 := by omega
  have h6 : (i : Int) + 1 ≤ c := by omega
  go_enter Try.func75, Try.ntmps75
  go_wp2_with fail
  by_cases hc : c = i + 1
  · go_region_law (first
        | (go_simp; go_at_call 99; refine (l1Own_any b off i _ L _ (HT.out.below (by repeat' (first | (with_reducible exact Below.refl _ _) | (with_reducible assumption) | (with_reducible refine Below.alloc ?_ ?_ _) | (with_reducible refine Below.drew ?_) | (with_reducible refine Below.setCell ?_ ?_ _) | (with_reducible refine Below.stepB (by assumption) ?_ ?_) | go_size))) (by omega)).mono ?_; rintro e w5 ⟨v5, rfl, hO5, hb5⟩; have hz5 : w.heap.size ≤ w5.heap.size := hb5.size)
        | (refine step_append_rowG (by rfl) _ _ 23 (by rfl) w.heap.size 3 i0 _ 1 8 Try.underlying23 hi0 hz0 hz1 hz2 (by rfl) (by decide) v5 i (flatG 1 (cellI L) i) (by rfl) hO5 b off (n - (i + 1)) 0 (fun q _ => .int .i64 (L (i + 1 + q))) (by rfl) ?_ (fun _ _ => rfl) (by omega) (by decide) ?_ ?_; go_loud (focus (intro q j hq hj; exact absurd hq (by omega))); go_loud (focus exact hz5); intro v6 w6 hO6 hb6 _))
    go_wp2
    go_ret
    have hO7 := hO6
    rw [flat_wo hi, show i + (n - (i + 1)) = n - 1 by omega] at hO7
    exact ⟨v6, rfl, hO7, by repeat' (first | (with_reducible exact Below.refl _ _) | (with_reducible assumption) | (with_reducible refine Below.alloc ?_ ?_ _) | (with_reducible refine Below.drew ?_) | (with_reducible refine Below.setCell ?_ ?_ _) | (with_reducible refine Below.stepB (by assumption) ?_ ?_) | go_size)⟩
  · go_region_law (first
        | (go_simp; go_at_call 99; refine (l1Own_any b off i _ L _ (HT.out.below (by repeat' (first | (with_reducible exact Below.refl _ _) | (with_reducible assumption) | (with_reducible refine Below.alloc ?_ ?_ _) | (with_reducible refine Below.drew ?_) | (with_reducible refine Below.setCell ?_ ?_ _) | (with_reducible refine Below.stepB (by assumption) ?_ ?_) | go_size))) (by omega)).mono ?_; rintro e w5 ⟨v5, rfl, hO5, hb5⟩; have hz5 : w.heap.size ≤ w5.heap.size := hb5.size)
        | (refine step_append_rowG (by rfl) _ _ 23 (by rfl) w.heap.size 3 i0 _ 1 8 Try.underlying23 hi0 hz0 hz1 hz2 (by rfl) (by decide) v5 i (flatG 1 (cellI L) i) (by rfl) hO5 b (off + (i + 1)) (n - (i + 1)) (c - (i + 1)) (fun q _ => .int .i64 (L (i + 1 + q))) (by rfl) ?_ (fun _ _ => rfl) (by omega) (by decide) ?_ ?_; go_loud (focus (intro q j hq hj; (obtain rfl : j = 0 := by omega); have h := HC.out _ (show Below w.heap.size w w5 from by repeat' (first | (with_reducible exact Below.refl _ _) | (with_reducible assumption) | (with_reducible refine Below.alloc ?_ ?_ _) | (with_reducible refine Below.drew ?_) | (with_reducible refine Below.setCell ?_ ?_ _) | (with_reducible refine Below.stepB (by assumption) ?_ ?_) | go_size)) (i + 1 + q) (by omega); simpa [Nat.add_assoc] using h)); go_loud (focus exact hz5); intro v6 w6 hO6 hb6 _))
    go_wp2
    go_ret
    have hO7 := hO6
    rw [flat_wo hi, show i + (n - (i + 1)) = n - 1 by omega] at hO7
    exact ⟨v6, rfl, hO7, by repeat' (first | (with_reducible exact Below.refl _ _) | (with_reducible assumption) | (with_reducible refine Below.alloc ?_ ?_ _) | (with_reducible refine Below.drew ?_) | (with_reducible refine Below.setCell ?_ ?_ _) | (with_reducible refine Below.stepB (by assumption) ?_ ?_) | go_size)⟩
end Go.Proofs.Ytakkgagdbmlafaa
