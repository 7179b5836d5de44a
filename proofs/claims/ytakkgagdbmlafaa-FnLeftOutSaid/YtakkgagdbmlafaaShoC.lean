/- Contracts: the choice of shoals once more, and how much room the chosen ones have. -/
import Derived.Test.YtakkgagdbmlafaaShoT
namespace Go.Proofs.Ytakkgagdbmlafaa
open Go.RowKit
/-- a slice of one's own that reads as L, within its room, and a yes or no -/
def IntsCap (w : World) (L : List Int) (ok : Bool) (e : Ending) (w' : World) : Prop :=
  ∃ A' c', e = .returned (.tuple #[.slice A' L.length c', .bool ok]) ∧ L.length ≤ c' ∧ OwnI w' w.heap.size A' L.length (fun i => L.getD i 0) ∧ Below w.heap.size w w'
theorem ownsRow_cap {w : World} {base : Nat} {e : TypeId} {A : Option Addr} {n c : Nat} {xs : List Value} (h : w.ownsRow base e 1 (.slice A n c) n xs) : n ≤ c := by
  rcases Nat.eq_zero_or_pos n with rfl | hn
  · exact Nat.zero_le _
  · obtain ⟨b, c2, e2⟩ := ownsRow_pos h hn
    cases e2
    exact (ownsRow_some h).2
theorem IntsCap.row {w w' : World} {base : Nat} {A : Option Addr} {c : Nat} {t : TypeId} {L L' : List Int} {ok ok' : Bool} (hO : w'.ownsRow base t 1 (.slice A L'.length c) L'.length (L'.map (Value.int .i64)))
    (hL : L = L') (hok : ok = ok') (hB : w.heap.size ≤ base) (hb : Below w.heap.size w w') : IntsCap w L ok (.returned (.tuple #[.slice A L'.length c, .bool ok'])) w' := by
  subst hL hok
  exact ⟨_, _, rfl, ownsRow_cap hO, (ownI_of rfl hO).more hB, hb⟩
theorem IntsCap.none {w w' : World} {A : Option Addr} {c : Nat} {L : List Int} {ok ok' : Bool} (hL : L = []) (hok : ok = ok') (hb : Below w.heap.size w w') : IntsCap w L ok (.returned (.tuple #[.slice A 0 c, .bool ok'])) w' := by
  subst hL hok
  exact ⟨_, _, rfl, Nat.zero_le _, fun h => absurd h (by simp), hb⟩
theorem ShoalsC_no (A : Option Addr) (n c : Nat) (f : Nat → SD) (r : Int) (w : World) (hS : SlSD w A n f) (hn : n ≤ 1048576) (h : shoOk f n r = false) :
    Calls Try.prog 23 #[.slice A n c, .int .i64 r] w fun e w' => IntsCap w [] false e w' := by
  have hg := Lib.hid (fun W (hb : Below w.heap.size w W) => AreSoundings_any A n c f W (hS.below hb) hn)
  unfold shoOk at h
  clear hS
  generalize goodNAll f n = q at hg h
  rcases Bool.eq_false_or_eq_true (inB r 1 1000) with hr | hr <;> cases q <;> (try (rw [hr] at h; cases h))
  all_goals
    try clear h
    go_enter Try.func23, Try.ntmps23
    go_wp2_with fail
    refine (hg.out _ (by repeat' (first | (with_reducible exact Below.refl _ _) | (with_reducible assumption) | (with_reducible refine Below.alloc ?_ ?_ _) | (with_reducible refine Below.drew ?_) | (with_reducible refine Below.setCell ?_ ?_ _) | (with_reducible refine Below.stepB (by assumption) ?_ ?_) | go_size))).mono ?_
    rintro e w1 ⟨rfl, hbw1⟩
    obtain ⟨hzw1, hcw1, hfw1⟩ := bfacts hbw1; (try simp at hzw1 hcw1 hfw1); (try (have : w.heap.size < w1.heap.size := by omega)); (try (have : w.heap.size + 1 < w1.heap.size := by omega)); (try (have : w.heap.size + 1 + 1 < w1.heap.size := by omega)); (try (have : w.heap.size + 1 + 1 + 1 < w1.heap.size := by omega))
    go_wp2_with (go_at_call 59; refine (isRadius_any _ _).mono ?_; rintro e w' ⟨rfl, rfl⟩)
    go_ret2
    exact IntsCap.none rfl rfl (by repeat' (first | (with_reducible exact Below.refl _ _) | (with_reducible assumption) | (with_reducible refine Below.alloc ?_ ?_ _) | (with_reducible refine Below.drew ?_) | (with_reducible refine Below.setCell ?_ ?_ _) | (with_reducible refine Below.stepB (by assumption) ?_ ?_) | go_size))
set_option maxRecDepth 100000 in
set_option maxHeartbeats 1000000 in
theorem ShoalsC_yes (A : Option Addr) (n c : Nat) (f : Nat → SD) (r : Int) (w : World) (hS : SlSD w A n f) (hn : n ≤ 1048576) (h : shoOk f n r = true) :
    Calls Try.prog 23 #[.slice A n c, .int .i64 r] w fun e w' => IntsCap w (shoL f n r) true e w' := by
  obtain ⟨hgd, hr⟩ : goodNAll f n = true ∧ inB r 1 1000 = true := by simpa [shoOk] using h
  have hg := fun W (hb : Below w.heap.size w W) => AreSoundings_any A n c f W (hS.below hb) hn
  rw [hgd] at hg
  have HG := Lib.hid hg
  have HGD := Lib.hid hgd
  have HR := Lib.hid hr
  have HRR := Lib.hid (show 0 ≤ r * r by have := rad_bd hr; omega)
  have hn12 := (goodNAll_iff.1 hgd).2
  have HT := Lib.hid (fun X (hX : Chosen f n r X) A6 c6 W (hb : Below w.heap.size w W) (hO : SlI W A6 X.length (fun i => X.getD i 0)) => notStoodFor_any A n c f A6 X.length c6 (fun i => X.getD i 0) r W (hS.below hb) hO hn (by obtain ⟨k, _, _, h3, _⟩ := hX; omega) hgd (by obtain ⟨k, _, _, _, h4⟩ := hX; exact h4) hr)
  have HOK := Lib.hid (fun X k hk => open_ok (f := f) (n := n) (r := r) hgd (X := X) k hk)
  obtain ⟨i0, hi0, hz0, hz1, hz2⟩ := info_parts int_info
  clear hS hg hgd h
  go_enter Try.func23, Try.ntmps23
  go_wp2_with fail
  refine (HG.out _ (by repeat' (first | (with_reducible exact Below.refl _ _) | (with_reducible assumption) | (with_reducible refine Below.alloc ?_ ?_ _) | (with_reducible refine Below.drew ?_) | (with_reducible refine Below.setCell ?_ ?_ _) | (with_reducible refine Below.stepB (by assumption) ?_ ?_) | go_size))).mono ?_
  rintro e w1 ⟨rfl, hbw1⟩
  obtain ⟨hzw1, hcw1, hfw1⟩ := bfacts hbw1; (try simp at hzw1 hcw1 hfw1); (try (have : w.heap.size < w1.heap.size := by omega)); (try (have : w.heap.size + 1 < w1.heap.size := by omega)); (try (have : w.heap.size + 1 + 1 < w1.heap.size := by omega)); (try (have : w.heap.size + 1 + 1 + 1 < w1.heap.size := by omega))
  go_wp2_with (go_at_call 59; refine (isRadius_any _ _).mono ?_; rintro e w' ⟨rfl, rfl⟩)
  have hO0 := Lib.hid (ownsRow_empty w1 3 1)
  go_loopw [6] (fun v6 wr => ∃ X : List Int, ∃ A6 c6, v6 = .slice A6 X.length c6 ∧ Hid (Chosen f n r X) ∧ Hid (wr.ownsRow w1.heap.size 3 1 (.slice A6 X.length c6) X.length (X.map (Value.int .i64))) ∧ Below w.heap.size w wr ∧ w1.heap.size ≤ wr.heap.size) (fun v6 _ => n - lenV v6)
  case atStart => exact ⟨[], _, _, rfl, chosen_nil f n r, hO0.out, by repeat' (first | (with_reducible exact Below.refl _ _) | (with_reducible assumption) | (with_reducible refine Below.alloc ?_ ?_ _) | (with_reducible refine Below.drew ?_) | (with_reducible refine Below.setCell ?_ ?_ _) | (with_reducible refine Below.stepB (by assumption) ?_ ?_) | go_size), by go_size⟩
  case round =>
    clear hO0
    obtain ⟨X, A6, c6, rfl, hX, hO, hbr, hz1r⟩ := hrel
    have hzr := hbr.size
    have hXl : X.length ≤ n := by obtain ⟨k, _, _, h3, _⟩ := hX.out; omega
    go_wp2_with fail
    refine (HT.out X hX.out A6 c6 _ hbr (ownI_of rfl hO.out).sl).mono ?_
    rintro e w3 ⟨A7, c7, rfl, hS7, hbw3⟩
    have HS7 := Lib.hid hS7
    have HO3 := Lib.hid (ownsRow_below hO.out (hbw3.mono (by omega)) : w3.ownsRow w1.heap.size 3 1 _ _ _)
    have hbr3 := hbr.trans (hbw3.mono (by omega))
    have hz3 := hbw3.size
    clear hS7 hbw3 hO
    obtain ⟨S, hS0⟩ : ∃ S, S = opX f n r X := ⟨_, rfl⟩
    have HSE := Lib.hid hS0
    rw [show openS f n (fun i => X.getD i 0) X.length r = S from hS0.symm] at HS7 ⊢
    clear hS0
    have hSl : S.length ≤ n := by rw [HSE.out]; exact opX_len X
    have HQ := Lib.hid (fun W (hb : Below w3.heap.size w3 W) => shoalest_any A7 S.length c7 (fun i => S.getD i noSD) W ((Own.sl HS7.out).below hb) (by omega) (fun k hk => by have := HOK.out X k (by rw [← HSE.out]; exact hk); rwa [← HSE.out] at this))
    rcases Nat.eq_zero_or_pos S.length with h0 | hp
    · have e0 : shoI (fun i => S.getD i noSD) S.length = -1 := by rw [h0]; rfl
      rw [e0, h0] at HQ
      go_wp2_with fail
      refine (HQ.out _ (Below.refl _ _)).mono ?_
      rintro e w4 ⟨rfl, hbw4⟩
      have hz4 := hbw4.size
      have HO4 := Lib.hid (ownsRow_below HO3.out (hbw4.mono (by omega)) : w4.ownsRow w1.heap.size 3 1 _ _ _)
      have hbr4 := hbr3.trans (hbw4.mono (by omega))
      have HEX := Lib.hid (chosen_end hX.out (by rw [← HSE.out]; exact h0))
      clear hbw4 h0 e0
      go_wp2_with fail
      refine (sort_own _ X w1.heap.size w4 HO4.out (by omega)).mono ?_
      rintro e w5 ⟨rfl, hO5, hbw5⟩
      have hbr5 := hbr4.trans (hbw5.mono (by omega))
      have HO5 := Lib.hid hO5
      clear hO5
      go_wp2
      go_ret2
      have h5 := HO5.out
      have el : X.length = (ascL X).length := (ascL_len X).symm
      rw [el] at h5 ⊢
      exact IntsCap.row h5 (by rw [shoL, ← HEX.out]) rfl (by omega) hbr5
    · have e0 : shoI (fun i => S.getD i noSD) S.length = (minI (lowAt (fun i => S.getD i noSD)) S.length : Int) := shoI_pos hp
      have hml : minI (lowAt (fun i => S.getD i noSD)) S.length < S.length := minI_lt hp
      have HBE : Hid (bestS S = (S.getD (minI (lowAt (fun i => S.getD i noSD)) S.length) noSD).id) := rfl
      rw [e0] at HQ
      generalize minI (lowAt (fun i => S.getD i noSD)) S.length = m at HQ hml HBE
      have HNX := Lib.hid (chosen_next HGD.out HRR.out hX.out (by rw [← HSE.out]; exact hp))
      rw [← HSE.out] at HNX
      clear e0
      go_wp2_with fail
      refine (HQ.out _ (Below.refl _ _)).mono ?_
      rintro e w4 ⟨rfl, hbw4⟩
      have hz4 := hbw4.size
      have HO4 := Lib.hid (ownsRow_below HO3.out (hbw4.mono (by omega)) : w4.ownsRow w1.heap.size 3 1 _ _ _)
      have hbr4 := hbr3.trans (hbw4.mono (by omega))
      obtain ⟨b7, off7, rfl, hbl7, hbl7', d0, d1, d2, d3, d4, hd⟩ := SlSD.at (Own.sl HS7.out) hbw4 hml
      clear hbw4 hd d1 d2 d3 d4
      replace d0 : w4.cell? _ = some (.int .i64 (S.getD m noSD).id) := d0
      generalize S.getD m noSD = s at d0 HBE
      have HXL := Lib.hid (show X.length < n by obtain ⟨k, _, _, h3, _⟩ := hX.out; rw [← HSE.out] at h3; omega)
      go_wp2_with (at_builtin; refine wpList_append_int1 _ rfl _ _ 23 rfl w1.heap.size 3 i0 Try.underlying23 hi0 hz0 hz1 hz2 _ _ _ rfl ((HO4.out.alloc _)) _ _ (s.id) rfl ?_ ?_ ?_ ?_; go_must (focus (simp; done)); go_must (focus omega); go_must (focus (simp; omega)); intro v9 w7 hOw7 hbw7; have hzw7 := hbw7.size; (try simp at hzw7))
      obtain ⟨A9, c9, rfl⟩ := ownsRow_form hOw7
      have HO9 := owns_snoc hOw7
      have el : X.length + 1 = (X ++ [bestS S]).length := by simp
      rw [← HBE.out] at HO9
      have HO9' := Lib.hid (show w7.ownsRow w1.heap.size 3 1 (.slice A9 (X ++ [bestS S]).length c9) (X ++ [bestS S]).length ((X ++ [bestS S]).map (Value.int .i64)) from by rw [el] at HO9; exact HO9)
      clear HO9 hOw7
      go_roundw
      case rel => exact ⟨X ++ [bestS S], A9, c9, by rw [← el], HNX.out, HO9'.out, by repeat' (first | (with_reducible exact Below.refl _ _) | (with_reducible assumption) | (with_reducible refine Below.alloc ?_ ?_ _) | (with_reducible refine Below.drew ?_) | (with_reducible refine Below.setCell ?_ ?_ _) | (with_reducible refine Below.stepB (by assumption) ?_ ?_) | go_size), by omega⟩
      case measure =>
        have := HXL.out
        simp [lenV]
        omega
theorem ShoalsC_any (A : Option Addr) (n c : Nat) (f : Nat → SD) (r : Int) (w : World) (hS : SlSD w A n f) (hn : n ≤ 1048576) :
    Calls Try.prog 23 #[.slice A n c, .int .i64 r] w fun e w' => IntsCap w (shoO f n r) (shoOk f n r) e w' := by
  rcases Bool.eq_false_or_eq_true (shoOk f n r) with h | h
  · rw [shoO, h]
    exact ShoalsC_yes A n c f r w hS hn h
  · rw [shoO, h]
    exact ShoalsC_no A n c f r w hS hn h
/-- the same, and the slice begins its block -/
def IntsSome (w : World) (L : List Int) (ok : Bool) (e : Ending) (w' : World) : Prop :=
  ∃ b' c', e = .returned (.tuple #[.slice (some ⟨b', 0, none⟩) L.length c', .bool ok]) ∧ L.length ≤ c' ∧ OwnI w' w.heap.size (some ⟨b', 0, none⟩) L.length (fun i => L.getD i 0) ∧ Below w.heap.size w w'
theorem IntsSome.row {w w' : World} {base : Nat} {b c : Nat} {t : TypeId} {L L' : List Int} {ok ok' : Bool} (hO : w'.ownsRow base t 1 (.slice (some ⟨b, 0, none⟩) L'.length c) L'.length (L'.map (Value.int .i64)))
    (hL : L = L') (hok : ok = ok') (hB : w.heap.size ≤ base) (hb : Below w.heap.size w w') : IntsSome w L ok (.returned (.tuple #[.slice (some ⟨b, 0, none⟩) L'.length c, .bool ok'])) w' := by
  subst hL hok
  exact ⟨_, _, rfl, ownsRow_cap hO, (ownI_of rfl hO).more hB, hb⟩
theorem specShoalsC_no (A : Option Addr) (n c : Nat) (f : Nat → SD) (r : Int) (w : World) (hS : SlSD w A n f) (hn : n ≤ 1048576) (h : shoOk f n r = false) :
    Calls Try.prog 24 #[.slice A n c, .int .i64 r] w fun e w' => IntsSome w [] false e w' := by
  have hg := fun g W (hb : Below w.heap.size w W) => l16Asked_any A n c f (some ⟨g, 0, none⟩) 0 0 (fun _ => 0) r W (hS.below hb) (fun h => absurd h (Nat.lt_irrefl _)) hn (by decide)
  have ha : askB f n (fun _ => 0) 0 r = false := by simpa [askB, selB, shoOk, ascN, fndB, allUpto] using h
  rw [ha] at hg
  have HG := Lib.hid hg
  clear hg ha h hS
  go_enter Try.func24, Try.ntmps24
  go_wp2_with fail
  refine (HG.out _ _ (by repeat' (first | (with_reducible exact Below.refl _ _) | (with_reducible assumption) | (with_reducible refine Below.alloc ?_ ?_ _) | (with_reducible refine Below.drew ?_) | (with_reducible refine Below.setCell ?_ ?_ _) | (with_reducible refine Below.stepB (by assumption) ?_ ?_) | go_size))).mono ?_
  rintro e w1 ⟨rfl, hbw1⟩
  obtain ⟨hzw1, hcw1, hfw1⟩ := bfacts hbw1; (try simp at hzw1 hcw1 hfw1); (try (have : w.heap.size < w1.heap.size := by omega)); (try (have : w.heap.size + 1 < w1.heap.size := by omega)); (try (have : w.heap.size + 1 + 1 < w1.heap.size := by omega)); (try (have : w.heap.size + 1 + 1 + 1 < w1.heap.size := by omega))
  go_wp2
  go_ret2
  exact IntsSome.row (ownsRow_below (ownsRow_empty w 3 1) (by repeat' (first | (with_reducible exact Below.refl _ _) | (with_reducible assumption) | (with_reducible refine Below.alloc ?_ ?_ _) | (with_reducible refine Below.drew ?_) | (with_reducible refine Below.setCell ?_ ?_ _) | (with_reducible refine Below.stepB (by assumption) ?_ ?_) | go_size))) rfl rfl (by omega) (by repeat' (first | (with_reducible exact Below.refl _ _) | (with_reducible assumption) | (with_reducible refine Below.alloc ?_ ?_ _) | (with_reducible refine Below.drew ?_) | (with_reducible refine Below.setCell ?_ ?_ _) | (with_reducible refine Below.stepB (by assumption) ?_ ?_) | go_size))
set_option maxRecDepth 100000 in
set_option maxHeartbeats 2000000 in
theorem specShoalsC_yes (A : Option Addr) (n c : Nat) (f : Nat → SD) (r : Int) (w : World) (hS : SlSD w A n f) (hn : n ≤ 1048576) (h : shoOk f n r = true) :
    Calls Try.prog 24 #[.slice A n c, .int .i64 r] w fun e w' => IntsSome w (shoL f n r) true e w' := by
  obtain ⟨hgd, hr⟩ : goodNAll f n = true ∧ inB r 1 1000 = true := by simpa [shoOk] using h
  have hg := fun g W (hb : Below w.heap.size w W) => l16Asked_any A n c f (some ⟨g, 0, none⟩) 0 0 (fun _ => 0) r W (hS.below hb) (fun h => absurd h (Nat.lt_irrefl _)) hn (by decide)
  rw [ask_of_sho h] at hg
  have HG := Lib.hid hg
  have HGD := Lib.hid hgd
  have HRR := Lib.hid (show 0 ≤ r * r by have := rad_bd hr; omega)
  have hn12 := (goodNAll_iff.1 hgd).2
  have HT := Lib.hid (fun Y (hY : ChosenY f n r Y) A6 c6 W (hb : Below w.heap.size w W) (hO : SlI W A6 Y.length (fun i => Y.getD i 0)) => l16Open_any A n c f A6 Y.length c6 (fun i => Y.getD i 0) r W (hS.below hb) hO hn (by have := choY_len hY; omega) hgd (choY_fnd hY) hr)
  have HLO := Lib.hid (fun q (hq : q < n) W => l8Low_any (f q) W (goodN_lt (goodNAll_iff.1 hgd).1 q hq))
  have HFI := Lib.hid (fun q (hq : q < n) W (hb : Below w.heap.size w W) => show Calls Try.prog 67 #[.slice A n c, .int .i64 (f q).id] W fun e w' => e = .returned (.int .i64 (q : Int)) ∧ W = w' from by
    have h1 := l8Find_any A n c f (f q).id W (hS.below hb) hn
    rw [idx_own hgd hq] at h1
    exact h1.mono (fun e w' h => by simpa [eq_comm] using h))
  have HS := Lib.hid hS
  clear hS hg hgd h hr
  go_enter Try.func24, Try.ntmps24
  go_wp2_with fail
  refine (HG.out _ _ (by repeat' (first | (with_reducible exact Below.refl _ _) | (with_reducible assumption) | (with_reducible refine Below.alloc ?_ ?_ _) | (with_reducible refine Below.drew ?_) | (with_reducible refine Below.setCell ?_ ?_ _) | (with_reducible refine Below.stepB (by assumption) ?_ ?_) | go_size))).mono ?_
  rintro e w1 ⟨rfl, hbw1⟩
  obtain ⟨hzw1, hcw1, hfw1⟩ := bfacts hbw1; (try simp at hzw1 hcw1 hfw1); (try (have : w.heap.size < w1.heap.size := by omega)); (try (have : w.heap.size + 1 < w1.heap.size := by omega)); (try (have : w.heap.size + 1 + 1 < w1.heap.size := by omega)); (try (have : w.heap.size + 1 + 1 + 1 < w1.heap.size := by omega))
  have hO0 := Lib.hid (ownsRow_below (ownsRow_empty w 3 1) (by repeat' (first | (with_reducible exact Below.refl _ _) | (with_reducible assumption) | (with_reducible refine Below.alloc ?_ ?_ _) | (with_reducible refine Below.drew ?_) | (with_reducible refine Below.setCell ?_ ?_ _) | (with_reducible refine Below.stepB (by assumption) ?_ ?_) | go_size)) : w1.ownsRow w.heap.size 3 1 _ _ _)
  go_wp2
  go_loopw [6] (fun v6 wr => ∃ Y : List Int, ∃ b c6, v6 = .slice (some ⟨b, 0, none⟩) Y.length c6 ∧ Hid (ChosenY f n r Y) ∧ Hid (wr.ownsRow w.heap.size 3 1 (.slice (some ⟨b, 0, none⟩) Y.length c6) Y.length (Y.map (Value.int .i64))) ∧ Below w.heap.size w wr) (fun v6 _ => n - lenV v6)
  case atStart => exact ⟨[], _, _, rfl, choY_nil f n r, hO0.out, by repeat' (first | (with_reducible exact Below.refl _ _) | (with_reducible assumption) | (with_reducible refine Below.alloc ?_ ?_ _) | (with_reducible refine Below.drew ?_) | (with_reducible refine Below.setCell ?_ ?_ _) | (with_reducible refine Below.stepB (by assumption) ?_ ?_) | go_size)⟩
  case round =>
    clear hO0
    obtain ⟨Y, b, c6, rfl, hY, hO, hbr⟩ := hrel
    have hzr := hbr.size
    have hYl := choY_len hY.out
    obtain ⟨hbl, hyc⟩ := ownsRow_some hO.out
    go_wp2_with fail
    refine (HT.out Y hY.out _ c6 _ hbr (ownI_of rfl hO.out).sl).mono ?_
    rintro e w3 ⟨A7, c7, rfl, hS7, hbw3⟩
    have HO3 := Lib.hid (ownsRow_below hO.out (hbw3.mono (by omega)) : w3.ownsRow w.heap.size 3 1 _ _ _)
    have hbr3 := hbr.trans (hbw3.mono (by omega))
    have hz3 := hbw3.size
    obtain ⟨S, hS0⟩ : ∃ S, S = opX f n r Y := ⟨_, rfl⟩
    have HSE := Lib.hid hS0
    have hids : openL f n (fun i => Y.getD i 0) Y.length r = S.map SD.id := by rw [hS0]; exact (openS_ids f n _ _ r).symm
    rw [hids] at hS7 ⊢
    rw [List.length_map] at hS7 ⊢
    rw [← hS0] at hYl
    obtain ⟨G, hG⟩ : ∃ G : Nat → SD, G = fun i => S.getD i noSD := ⟨_, rfl⟩
    obtain ⟨m, hm⟩ : ∃ m, m = S.length := ⟨_, rfl⟩
    have HSL : Hid (SlI w3 A7 m (fun i => (G i).id)) := fun h0 => by
      obtain ⟨b1, o1, e1, hl, hc⟩ := hS7.sl (by omega)
      refine ⟨b1, o1, e1, hl, fun i j hi hj => ?_⟩
      rw [hc i j (by omega) hj, hG]
      simp [List.getD, show i < S.length by omega]
    have HGF : Hid (∀ i, i < m → ∃ q, q < n ∧ G i = f q) := fun i hi => by
      rw [hG]
      have := opX_f (f := f) (n := n) (r := r) (Y := Y) i (by rw [← hS0, ← hm]; exact hi)
      rwa [← hS0] at this
    have HBE : Hid (bestS S = (G (minI (lowAt G) m)).id) := by show _ = _; rw [hG, hm]; rfl
    have HML : Hid (m = S.length) := hm
    rw [← hm] at hYl ⊢
    clear hS7 hbw3 hO hS0 hids hG hm
    rcases Nat.eq_zero_or_pos m with h0 | hp
    · have HEX := Lib.hid (choY_end hY.out (by rw [← HSE.out, ← HML.out]; exact h0))
      go_wp2
      go_ret2
      exact IntsSome.row HO3.out HEX.out.symm rfl (by omega) hbr3
    · have HNX := Lib.hid (choY_next HGD.out HRR.out hY.out (by rw [← HSE.out, ← HML.out]; exact hp))
      rw [← HSE.out, HBE.out] at HNX
      have HNW := Lib.hid (best_new HGD.out HRR.out (X := Y) (by rw [← HSE.out, ← HML.out]; exact hp))
      rw [← HSE.out, HBE.out] at HNW
      obtain ⟨b7, o7, rfl, hbl7, hbl7', z0⟩ := SlI.at HSL.out (Below.refl _ _) hp
      (try rw [Nat.add_zero] at z0)
      have HBR3 := Lib.hid hbr3
      have hmz : ((m : Int) == 0) = false := by simp; omega
      clear hbr hbr3
      go_wp2
      go_loopw [8, 9] (fun v8 v9 wr => ∃ k : Nat, 1 ≤ k ∧ k ≤ m ∧ v9 = .int .i64 k ∧ v8 = .int .i64 (G (minI (lowAt G) k)).id ∧ Below w3.heap.size w3 wr) (fun _ v9 _ => m - (intOf v9).toNat)
      case atStart => exact ⟨1, Nat.le_refl _, hp, rfl, rfl, by repeat' (first | (with_reducible exact Below.refl _ _) | (with_reducible assumption) | (with_reducible refine Below.alloc ?_ ?_ _) | (with_reducible refine Below.drew ?_) | (with_reducible refine Below.setCell ?_ ?_ _) | (with_reducible refine Below.stepB (by assumption) ?_ ?_) | go_size)⟩
      case round =>
        rename World => wq
        obtain ⟨k, hk1, hk, rfl, rfl, hbq⟩ := hrel
        have hzq := hbq.size
        have hbW := HBR3.out.trans (hbq.mono (by omega))
        by_cases hlt : k < m
        · have hbl : minI (lowAt G) k < k := minI_lt (by omega)
          have HN : Hid (minI (lowAt G) (k + 1) = if lowAt G k < lowAt G (minI (lowAt G) k) then k else minI (lowAt G) k) := by
            show _ = _
            rw [minI, if_neg (by omega)]
          generalize minI (lowAt G) k = p at HN hbl ⊢
          obtain ⟨q1, hq1, e1⟩ := HGF.out k hlt
          obtain ⟨q2, hq2, e2⟩ := HGF.out p (by omega)
          obtain ⟨b8, o8, hbo, hbl8, hbl8', y0⟩ := SlI.at HSL.out hbq hlt
          obtain ⟨rfl, rfl⟩ : b7 = b8 ∧ o7 = o8 := by simpa using hbo
          clear hbo
          obtain ⟨b9, o9, rfl, hbl9, hbl9', x0, x1, x2, x3, x4, hx⟩ := HS.out.at hbW hq1
          clear hx
          have HNk : Hid (lowV (f q1) < lowV (f q2) → (G (minI (lowAt G) (k + 1))).id = (f q1).id) := fun hl => by
            have : lowAt G k < lowAt G p := by show lowV (G k) < lowV (G p); rw [e1, e2]; exact hl
            rw [HN.out, if_pos this, e1]
          have HNp : Hid (¬ lowV (f q1) < lowV (f q2) → (G (minI (lowAt G) (k + 1))).id = (f q2).id) := fun hl => by
            have : ¬ lowAt G k < lowAt G p := by show ¬ lowV (G k) < lowV (G p); rw [e1, e2]; exact hl
            rw [HN.out, if_neg this, e2]
          rw [e1] at y0
          rw [e2]
          clear e1 e2 HN
          have HBW := Lib.hid hbW
          have HBQ := Lib.hid hbq
          clear hbW hbq
          go_wp2_with fail
          refine (HFI.out q1 hq1 _ HBW.out).mono ?_
          rintro e w4 ⟨rfl, rfl⟩
          go_wp2_with fail
          refine (HLO.out q1 hq1 _).mono ?_
          rintro e w5 ⟨rfl, hbw5⟩
          have hz5 := hbw5.size
          have HB5 := Lib.hid (HBW.out.trans (hbw5.mono (by omega)))
          obtain ⟨b10, o10, hbo, hbl10, hbl10', u0, u1, u2, u3, u4, hx⟩ := HS.out.at HB5.out hq2
          obtain ⟨rfl, rfl⟩ : b9 = b10 ∧ o9 = o10 := by simpa using hbo
          clear hbo hx
          have y5 := (hbw5.cell (p := ⟨b7, _, none⟩) (by show b7 < _; omega)).trans y0
          have HQ5 := Lib.hid (HBQ.out.trans (hbw5.mono (by omega)))
          clear hbw5 y0
          go_wp2_with fail
          refine (HFI.out q2 hq2 _ HB5.out).mono ?_
          rintro e w6 ⟨rfl, rfl⟩
          go_wp2_with fail
          refine (HLO.out q2 hq2 _).mono ?_
          rintro e w7 ⟨rfl, hbw7⟩
          have hz7 := hbw7.size
          have y7 := (hbw7.cell (p := ⟨b7, _, none⟩) (by show b7 < _; omega)).trans y5
          have HQ7 := Lib.hid (HQ5.out.trans (hbw7.mono (by omega)))
          clear hbw7 y5
          by_cases hlow : lowV (f q1) < lowV (f q2)
          · have hd : decide (lowV (f q1) < lowV (f q2)) = true := decide_eq_true hlow
            have HE := Lib.hid (HNk.out hlow)
            clear hlow
            go_wp2
            go_roundw
            case rel => exact ⟨k + 1, by omega, by omega, by go_num, by rw [HE.out], HQ7.out⟩
            case measure => simp [intOf]; omega
          · have hd : decide (lowV (f q1) < lowV (f q2)) = false := decide_eq_false hlow
            have HE := Lib.hid (HNp.out (by omega))
            clear hlow
            go_wp2
            go_roundw
            case rel => exact ⟨k + 1, by omega, by omega, by go_num, by rw [HE.out], HQ7.out⟩
            case measure => simp [intOf]; omega
        · obtain rfl : k = m := by omega
          have HOQ := Lib.hid (ownsRow_below HO3.out (hbq.mono (by omega)) : wq.ownsRow w.heap.size 3 1 _ _ _)
          generalize (G (minI (lowAt G) k)).id = best at HNX HNW ⊢
          have HBW := Lib.hid hbW
          clear hbW hbq
          go_wp2_with fail
          refine (l1Put_any b c6 Y best _ ((ownI_of rfl HOQ.out).sl) (by omega) hyc (by omega) HNW.out).mono ?_
          rintro e w9 ⟨v, rfl, hO9, hbw9⟩
          obtain ⟨b9, c9, rfl⟩ := ownsRow_pos hO9 (by rw [putL_len]; omega)
          have HO9 := Lib.hid (own_base hO9 (show w.heap.size ≤ _ by omega))
          have HB9 := Lib.hid (HBW.out.trans (hbw9.mono (by omega)))
          clear hO9 hbw9
          go_wp2
          go_roundw
          case rel => exact ⟨putL Y best, b9, c9, rfl, HNX.out, HO9.out, HB9.out⟩
          case measure =>
            simp [lenV, putL_len]
            omega
theorem specShoalsC_any (A : Option Addr) (n c : Nat) (f : Nat → SD) (r : Int) (w : World) (hS : SlSD w A n f) (hn : n ≤ 1048576) :
    Calls Try.prog 24 #[.slice A n c, .int .i64 r] w fun e w' => IntsSome w (shoO f n r) (shoOk f n r) e w' := by
  rcases Bool.eq_false_or_eq_true (shoOk f n r) with h | h
  · rw [shoO, h]
    exact specShoalsC_yes A n c f r w hS hn h
  · rw [shoO, h]
    exact specShoalsC_no A n c f r w hS hn h
end Go.Proofs.Ytakkgagdbmlafaa
