/- Contracts: a list of numbers of one's own sorted by the library; the program's choice of shoals. -/
import Derived.Test.YtakkgagdbmlafaaShoQ
import Derived.Test.YtakkgagdbmlafaaSortI
import Derived.Test.YtakkgagdbmlafaaSelE
import Derived.Shelf.Slices.In.SortNone
namespace Go.Proofs.Ytakkgagdbmlafaa
open Go.RowKit Go.Shelf Go.Sort
theorem sort_own (v : Value) (X : List Int) (base : Nat) (w : World) (hO : w.ownsRow base 3 1 v X.length (X.map (Value.int .i64))) (hX : X.length ≤ 1000) :
    Calls Try.prog 63 #[v] w fun e w' => e = .returned (.tuple #[]) ∧ w'.ownsRow base 3 1 v (ascL X).length ((ascL X).map (Value.int .i64)) ∧ Below base w w' := by
  rw [ascL_len]
  have h2 := hO.2
  rcases h2 with ⟨rfl, h0⟩ | ⟨g, cap, cur, rfl, hg, hh, hnc, hmx, hsz, htk⟩
  · have h1 := calls_of_every_depth fun D => AnyS.slices_Sort_int_none_alone Try.laysSort D none 0 w
    refine h1.mono ?_
    rintro e w' ⟨rfl, rfl⟩
    have : X = [] := List.length_eq_zero_iff.1 h0
    subst this
    exact ⟨rfl, hO, Below.refl _ _⟩
  · rw [Nat.mul_one] at htk
    have h1 := sort_any g 0 cap X w (holds_of_blockI hh htk) ((Array.getElem?_eq_some_iff.1 hh).1) (by omega)
    rw [sort_asc] at h1
    refine h1.mono ?_
    rintro e w' ⟨rfl, q, os, rfl⟩
    have hgl := (Array.getElem?_eq_some_iff.1 hh).1
    refine ⟨rfl, ownsRow_sortedI (ascL_len X) hg hh hnc hmx hsz, (Below.refl base w).grown (grownBy_sortedI _) (by omega) ?_⟩
    intro k hk
    injection hk with hk
    omega
def lenV : Value → Nat
  | .slice _ n _ => n
  | _ => 0
def shoOk (f : Nat → SD) (n : Nat) (r : Int) : Bool := goodNAll f n && inB r 1 1000
def shoL (f : Nat → SD) (n : Nat) (r : Int) : List Int := ascL (runX f n r n [])
def shoO (f : Nat → SD) (n : Nat) (r : Int) : List Int := if shoOk f n r = true then shoL f n r else []
theorem open_ok {f : Nat → SD} {n : Nat} {r : Int} (hg : goodNAll f n = true) {X : List Int} (k : Nat) (hk : k < (opX f n r X).length) : okN ((opX f n r X).getD k noSD) = true := by
  obtain ⟨q, h1, _, h3⟩ := pick_mem (p := openP f n (fun i => X.getD i 0) X.length r) (h := f) (n := n) noSD hk
  have h4 : (opX f n r X).getD k noSD = f q := h3
  rw [h4]
  exact goodN_lt (goodNAll_iff.1 hg).1 q h1
theorem fnd_snoc {f : Nat → SD} {n : Nat} {r : Int} (hg : goodNAll f n = true) {X : List Int} (h : fndB f n (fun i => X.getD i 0) X.length = true) (ho : 0 < (opX f n r X).length) :
    fndB f n (fun i => (X ++ [bestS (opX f n r X)]).getD i 0) (X ++ [bestS (opX f n r X)]).length = true := by
  obtain ⟨q, hq, _, e, -⟩ := best_in hg ho
  rw [e]
  refine allUpto_iff.2 (fun k hk => ?_)
  have h1 := allUpto_iff.1 h
  simp only [List.length_append, List.length_singleton] at hk
  by_cases hlt : k < X.length
  · have := h1 k hlt
    simp only [decide_eq_true_eq] at this ⊢
    simpa [List.getD, List.getElem?_append_left hlt] using this
  · have : k = X.length := by omega
    subst this
    have e2 : (X ++ [(f q).id]).getD X.length 0 = (f q).id := by simp [List.getD]
    simp only [e2]
    rcases idxId_cases f n (f q).id with ⟨_, h⟩ | ⟨k, hk, h1, h2⟩
    · exact absurd rfl (h q hq)
    · rw [h1]; simp
/-- what holds of those that are chosen so far -/
def Chosen (f : Nat → SD) (n : Nat) (r : Int) (X : List Int) : Prop := ∃ k, runX f n r k X = runX f n r n [] ∧ (opX f n r X).length ≤ k ∧ X.length + (opX f n r X).length ≤ n ∧ fndB f n (fun i => X.getD i 0) X.length = true
theorem chosen_nil (f : Nat → SD) (n : Nat) (r : Int) : Chosen f n r [] := ⟨n, rfl, opX_len _, by have := opX_len (f := f) (n := n) (r := r) []; simpa using this, rfl⟩
theorem chosen_next {f : Nat → SD} {n : Nat} {r : Int} (hg : goodNAll f n = true) (hr : 0 ≤ r * r) {X : List Int} (h : Chosen f n r X) (ho : 0 < (opX f n r X).length) : Chosen f n r (X ++ [bestS (opX f n r X)]) := by
  obtain ⟨k, h1, h2, h3, h4⟩ := h
  have h5 := opX_less hg hr ho
  obtain ⟨j, rfl⟩ : ∃ j, k = j + 1 := ⟨k - 1, by omega⟩
  rw [run_step ho] at h1
  exact ⟨j, h1, by omega, by simp only [List.length_append, List.length_singleton]; omega, fnd_snoc hg h4 ho⟩
theorem chosen_end {f : Nat → SD} {n : Nat} {r : Int} {X : List Int} (h : Chosen f n r X) (ho : (opX f n r X).length = 0) : X = runX f n r n [] := by
  obtain ⟨k, h1, _⟩ := h
  rw [← h1, run_end ho]
theorem Shoals_no (A : Option Addr) (n c : Nat) (f : Nat → SD) (r : Int) (w : World) (hS : SlSD w A n f) (hn : n ≤ 1048576) (h : shoOk f n r = false) :
    Calls Try.prog 23 #[.slice A n c, .int .i64 r] w fun e w' => IntsOut w [] false e w' := by
  have hg := Lib.hid (fun W (hb : Below w.heap.size w W) => AreSoundings_any A n c f W (hS.below hb) hn)
  unfold shoOk at h
  clear hS
  generalize goodNAll f n = q at hg h
  rcases Bool.eq_false_or_eq_true (inB r 1 1000) with hr | hr <;> cases q <;> (try (rw [hr] at h; cases h))
  all_goals
    try clear h
    go_enter Try.func23, Try.ntmps23
    go_wp2_with fail
    refine (hg.out _ (by repeat' (first | (with_reducible exact Below.refl _ _) | (with_reducible assumption) | (with_reducible refine Below.alloc ?_ ?_ _) | (with_reducible refine Below.drew ?_) | (with_reducible refine Below.setCell ?_ ?_ _) | (with_reducible refine Below.stepB (by assumption) ?_ ?_) | go_size))).mono ?_
    rintro e w1 ⟨rfl, hbw1⟩
    obtain ⟨hzw1, hcw1, hfw1⟩ := bfacts hbw1; (try simp at hzw1 hcw1 hfw1); (try (have : w.heap.size < w1.heap.size := by omega)); (try (have : w.heap.size + 1 < w1.heap.size := by omega)); (try (have : w.heap.size + 1 + 1 < w1.heap.size := by omega)); (try (have : w.heap.size + 1 + 1 + 1 < w1.heap.size := by omega))
    go_wp2_with (go_at_call 59; refine (isRadius_any _ _).mono ?_; rintro e w' ⟨rfl, rfl⟩)
    go_ret2
    exact IntsOut.none rfl rfl (by repeat' (first | (with_reducible exact Below.refl _ _) | (with_reducible assumption) | (with_reducible refine Below.alloc ?_ ?_ _) | (with_reducible refine Below.drew ?_) | (with_reducible refine Below.setCell ?_ ?_ _) | (with_reducible refine Below.stepB (by assumption) ?_ ?_) | go_size))
set_option maxRecDepth 100000 in
set_option maxHeartbeats 1000000 in
theorem Shoals_yes (A : Option Addr) (n c : Nat) (f : Nat → SD) (r : Int) (w : World) (hS : SlSD w A n f) (hn : n ≤ 1048576) (h : shoOk f n r = true) :
    Calls Try.prog 23 #[.slice A n c, .int .i64 r] w fun e w' => IntsOut w (shoL f n r) true e w' := by
  obtain ⟨hgd, hr⟩ : goodNAll f n = true ∧ inB r 1 1000 = true := by simpa [shoOk] using h
  have hg := fun W (hb : Below w.heap.size w W) => AreSoundings_any A n c f W (hS.below hb) hn
  rw [hgd] at hg
  have HG := Lib.hid hg
  have HGD := Lib.hid hgd
  have HR := Lib.hid hr
  have HRR := Lib.hid (show 0 ≤ r * r by have := rad_bd hr; omega)
  have hn12 := (goodNAll_iff.1 hgd).2
  have HT := Lib.hid (fun X (hX : Chosen f n r X) A6 c6 W (hb : Below w.heap.size w W) (hO : SlI W A6 X.length (fun i => X.getD i 0)) => notStoodFor_any A n c f A6 X.length c6 (fun i => X.getD i 0) r W (hS.below hb) hO hn (by obtain ⟨k, _, _, h3, _⟩ := hX; omega) hgd (by obtain ⟨k, _, _, _, h4⟩ := hX; exact h4) hr)
  have HOK := Lib.hid (fun X k hk => open_ok (f := f) (n := n) (r := r) hgd (X := X) k hk)
  obtain ⟨i0, hi0, hz0, hz1, hz2⟩ := info_parts int_info
  clear hS hg hgd h
  go_enter Try.func23, Try.ntmps23
  go_wp2_with fail
  refine (HG.out _ (by repeat' (first | (with_reducible exact Below.refl _ _) | (with_reducible assumption) | (with_reducible refine Below.alloc ?_ ?_ _) | (with_reducible refine Below.drew ?_) | (with_reducible refine Below.setCell ?_ ?_ _) | (with_reducible refine Below.stepB (by assumption) ?_ ?_) | go_size))).mono ?_
  rintro e w1 ⟨rfl, hbw1⟩
  obtain ⟨hzw1, hcw1, hfw1⟩ := bfacts hbw1; (try simp at hzw1 hcw1 hfw1); (try (have : w.heap.size < w1.heap.size := by omega)); (try (have : w.heap.size + 1 < w1.heap.size := by omega)); (try (have : w.heap.size + 1 + 1 < w1.heap.size := by omega)); (try (have : w.heap.size + 1 + 1 + 1 < w1.heap.size := by omega))
  go_wp2_with (go_at_call 59; refine (isRadius_any _ _).mono ?_; rintro e w' ⟨rfl, rfl⟩)
  have hO0 := Lib.hid (ownsRow_empty w1 3 1)
  go_loopw [6] (fun v6 wr => ∃ X : List Int, ∃ A6 c6, v6 = .slice A6 X.length c6 ∧ Hid (Chosen f n r X) ∧ Hid (wr.ownsRow w1.heap.size 3 1 (.slice A6 X.length c6) X.length (X.map (Value.int .i64))) ∧ Below w.heap.size w wr ∧ w1.heap.size ≤ wr.heap.size) (fun v6 _ => n - lenV v6)
  case atStart => exact ⟨[], _, _, rfl, chosen_nil f n r, hO0.out, by repeat' (first | (with_reducible exact Below.refl _ _) | (with_reducible assumption) | (with_reducible refine Below.alloc ?_ ?_ _) | (with_reducible refine Below.drew ?_) | (with_reducible refine Below.setCell ?_ ?_ _) | (with_reducible refine Below.stepB (by assumption) ?_ ?_) | go_size), by go_size⟩
  case round =>
    clear hO0
    obtain ⟨X, A6, c6, rfl, hX, hO, hbr, hz1r⟩ := hrel
    have hzr := hbr.size
    have hXl : X.length ≤ n := by obtain ⟨k, _, _, h3, _⟩ := hX.out; omega
    go_wp2_with fail
    refine (HT.out X hX.out A6 c6 _ hbr (ownI_of rfl hO.out).sl).mono ?_
    rintro e w3 ⟨A7, c7, rfl, hS7, hbw3⟩
    have HS7 := Lib.hid hS7
    have HO3 := Lib.hid (ownsRow_below hO.out (hbw3.mono (by omega)) : w3.ownsRow w1.heap.size 3 1 _ _ _)
    have hbr3 := hbr.trans (hbw3.mono (by omega))
    have hz3 := hbw3.size
    clear hS7 hbw3 hO
    obtain ⟨S, hS0⟩ : ∃ S, S = opX f n r X := ⟨_, rfl⟩
    have HSE := Lib.hid hS0
    rw [show openS f n (fun i => X.getD i 0) X.length r = S from hS0.symm] at HS7 ⊢
    clear hS0
    have hSl : S.length ≤ n := by rw [HSE.out]; exact opX_len X
    have HQ := Lib.hid (fun W (hb : Below w3.heap.size w3 W) => shoalest_any A7 S.length c7 (fun i => S.getD i noSD) W ((Own.sl HS7.out).below hb) (by omega) (fun k hk => by have := HOK.out X k (by rw [← HSE.out]; exact hk); rwa [← HSE.out] at this))
    rcases Nat.eq_zero_or_pos S.length with h0 | hp
    · have e0 : shoI (fun i => S.getD i noSD) S.length = -1 := by rw [h0]; rfl
      rw [e0, h0] at HQ
      go_wp2_with fail
      refine (HQ.out _ (Below.refl _ _)).mono ?_
      rintro e w4 ⟨rfl, hbw4⟩
      have hz4 := hbw4.size
      have HO4 := Lib.hid (ownsRow_below HO3.out (hbw4.mono (by omega)) : w4.ownsRow w1.heap.size 3 1 _ _ _)
      have hbr4 := hbr3.trans (hbw4.mono (by omega))
      have HEX := Lib.hid (chosen_end hX.out (by rw [← HSE.out]; exact h0))
      clear hbw4 h0 e0
      go_wp2_with fail
      refine (sort_own _ X w1.heap.size w4 HO4.out (by omega)).mono ?_
      rintro e w5 ⟨rfl, hO5, hbw5⟩
      have hbr5 := hbr4.trans (hbw5.mono (by omega))
      have HO5 := Lib.hid hO5
      clear hO5
      go_wp2
      go_ret2
      have h5 := HO5.out
      have el : X.length = (ascL X).length := (ascL_len X).symm
      rw [el] at h5 ⊢
      exact IntsOut.row h5 (by rw [shoL, ← HEX.out]) rfl (by omega) hbr5
    · have e0 : shoI (fun i => S.getD i noSD) S.length = (minI (lowAt (fun i => S.getD i noSD)) S.length : Int) := shoI_pos hp
      have hml : minI (lowAt (fun i => S.getD i noSD)) S.length < S.length := minI_lt hp
      have HBE : Hid (bestS S = (S.getD (minI (lowAt (fun i => S.getD i noSD)) S.length) noSD).id) := rfl
      rw [e0] at HQ
      generalize minI (lowAt (fun i => S.getD i noSD)) S.length = m at HQ hml HBE
      have HNX := Lib.hid (chosen_next HGD.out HRR.out hX.out (by rw [← HSE.out]; exact hp))
      rw [← HSE.out] at HNX
      clear e0
      go_wp2_with fail
      refine (HQ.out _ (Below.refl _ _)).mono ?_
      rintro e w4 ⟨rfl, hbw4⟩
      have hz4 := hbw4.size
      have HO4 := Lib.hid (ownsRow_below HO3.out (hbw4.mono (by omega)) : w4.ownsRow w1.heap.size 3 1 _ _ _)
      have hbr4 := hbr3.trans (hbw4.mono (by omega))
      obtain ⟨b7, off7, rfl, hbl7, hbl7', d0, d1, d2, d3, d4, hd⟩ := SlSD.at (Own.sl HS7.out) hbw4 hml
      clear hbw4 hd d1 d2 d3 d4
      replace d0 : w4.cell? _ = some (.int .i64 (S.getD m noSD).id) := d0
      generalize S.getD m noSD = s at d0 HBE
      have HXL := Lib.hid (show X.length < n by obtain ⟨k, _, _, h3, _⟩ := hX.out; rw [← HSE.out] at h3; omega)
      go_wp2_with (at_builtin; refine wpList_append_int1 _ rfl _ _ 23 rfl w1.heap.size 3 i0 Try.underlying23 hi0 hz0 hz1 hz2 _ _ _ rfl ((HO4.out.alloc _)) _ _ (s.id) rfl ?_ ?_ ?_ ?_; go_must (focus (simp; done)); go_must (focus omega); go_must (focus (simp; omega)); intro v9 w7 hOw7 hbw7; have hzw7 := hbw7.size; (try simp at hzw7))
      obtain ⟨A9, c9, rfl⟩ := ownsRow_form hOw7
      have HO9 := owns_snoc hOw7
      have el : X.length + 1 = (X ++ [bestS S]).length := by simp
      rw [← HBE.out] at HO9
      have HO9' := Lib.hid (show w7.ownsRow w1.heap.size 3 1 (.slice A9 (X ++ [bestS S]).length c9) (X ++ [bestS S]).length ((X ++ [bestS S]).map (Value.int .i64)) from by rw [el] at HO9; exact HO9)
      clear HO9 hOw7
      go_roundw
      case rel => exact ⟨X ++ [bestS S], A9, c9, by rw [← el], HNX.out, HO9'.out, by repeat' (first | (with_reducible exact Below.refl _ _) | (with_reducible assumption) | (with_reducible refine Below.alloc ?_ ?_ _) | (with_reducible refine Below.drew ?_) | (with_reducible refine Below.setCell ?_ ?_ _) | (with_reducible refine Below.stepB (by assumption) ?_ ?_) | go_size), by omega⟩
      case measure =>
        have := HXL.out
        simp [lenV]
        omega
theorem shoO_len (f : Nat → SD) (n : Nat) (r : Int) (hn : n ≤ 1048576) : (shoO f n r).length ≤ 1048576 := by
  unfold shoO shoL
  split
  · rw [ascL_len]
    have key : ∀ k X, (runX f n r k X).length ≤ X.length + k := by
      intro k
      induction k with
      | zero => intro X; exact Nat.le_refl _
      | succ k ih =>
        intro X
        unfold runX
        split
        · omega
        · have := ih (X ++ [bestS (opX f n r X)])
          simp at this
          omega
    have := key n []
    simp at this
    omega
  · simp
theorem Shoals_any (A : Option Addr) (n c : Nat) (f : Nat → SD) (r : Int) (w : World) (hS : SlSD w A n f) (hn : n ≤ 1048576) :
    Calls Try.prog 23 #[.slice A n c, .int .i64 r] w fun e w' => IntsOut w (shoO f n r) (shoOk f n r) e w' := by
  rcases Bool.eq_false_or_eq_true (shoOk f n r) with h | h
  · rw [shoO, h]
    exact Shoals_yes A n c f r w hS hn h
  · rw [shoO, h]
    exact Shoals_no A n c f r w hS hn h
end Go.Proofs.Ytakkgagdbmlafaa
