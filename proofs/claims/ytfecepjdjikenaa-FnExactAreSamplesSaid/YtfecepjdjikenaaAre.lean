/- The law on lists of samples, over the contracts. -/
import Derived.Test.YtfecepjdjikenaaCopy
namespace Go.Proofs.Ytfecepjdjikenaa
open Go.RowKit
theorem specAreSamples_any (A : Option Addr) (n c : Nat) (f : Nat → BS) (w : World) (hS : SlS w A n f) (hn : n ≤ 1048576) : Calls Try.prog 23 #[.slice A n c] w
    fun e w' => e = .returned (.bool (goodUpto f n && decide (n ≤ 12))) ∧ Below w.heap.size w w' := by
  go_enter Try.func23, Try.ntmps23
  go_wp2_with fail
  refine (l18Good_any A n c f _ hS hn).mono ?_
  rintro e w1 ⟨rfl, hbw1⟩
  go_wp2
  go_ret
  exact ⟨rfl, hbw1⟩
theorem law_AreSamples (A : Option Addr) (n c : Nat) (f : Nat → BS) (w : World) (hS : SlS w A n f) (hm : n ≤ 9223372036854775807) : Calls Try.prog 6 #[.slice A n c] w
    fun e w' => e = .returned (.bool true) ∧ Below w.heap.size w w' := by
  by_cases hn : n ≤ 1048576
  · go_enter Try.func6, Try.ntmps6
    go_wp2_with (go_at_call 22; refine (sz_yes A n c _ hn).mono ?_; rintro e w' ⟨rfl, rfl⟩)
    refine (toBottomSampleS_any A n c f _ hS hn).mono ?_
    rintro e w1 ⟨rfl, hO1, hb1⟩
    have hS1 : SlS w1 A n f := hS.below hb1
    go_wp2_with fail
    refine (specAreSamples_any _ n n f _ hO1.sl hn).mono ?_
    rintro e w2 ⟨rfl, hb2⟩
    have hS2 : SlS w2 A n f := hS1.below hb2
    go_wp2_with fail
    refine (toBottomSampleS_any A n c f _ hS2 hn).mono ?_
    rintro e w3 ⟨rfl, hO3, hb3⟩
    have hS3 : SlS w3 A n f := hS2.below hb3
    go_wp2_with fail
    refine (AreSamples_any _ n n f _ hO3.sl hn).mono ?_
    rintro e w4 ⟨rfl, hb4⟩
    have hS4 : SlS w4 A n f := hS3.below hb4
    have hO4 := hO3.below hb4
    go_wp2_with fail
    refine (toBottomSampleS_any A n c f _ hS4 hn).mono ?_
    rintro e w5 ⟨rfl, hO5, hb5⟩
    have hO4 := hO4.below hb5
    go_wp2_with fail
    refine (eqBottomSampleS_same _ _ n n n f _ hO4.sl hO5.sl hn).mono ?_
    rintro e w6 ⟨rfl, hb6⟩
    go_wp2
    go_ret
    have z1 := hb1.size
    have z2 := hb2.size
    have z3 := hb3.size
    have z4 := hb4.size
    have z5 := hb5.size
    exact ⟨rfl, by repeat' (first | (with_reducible exact Below.refl _ _) | (with_reducible assumption) | (with_reducible refine Below.alloc ?_ ?_ _) | (with_reducible refine Below.drew ?_) | (with_reducible refine Below.setCell ?_ ?_ _) | (with_reducible refine Below.step (by assumption) ?_ ?_) | go_size)⟩
  · go_enter Try.func6, Try.ntmps6
    go_wp2_with (go_at_call 22; refine (sz_no A n c _ (by omega) hm).mono ?_; rintro e w' ⟨rfl, rfl⟩)
    go_ret
    exact ⟨rfl, by repeat' (first | (with_reducible exact Below.refl _ _) | (with_reducible assumption) | (with_reducible refine Below.alloc ?_ ?_ _) | (with_reducible refine Below.drew ?_) | (with_reducible refine Below.setCell ?_ ?_ _) | (with_reducible refine Below.step (by assumption) ?_ ?_) | go_size)⟩
end Go.Proofs.Ytfecepjdjikenaa
