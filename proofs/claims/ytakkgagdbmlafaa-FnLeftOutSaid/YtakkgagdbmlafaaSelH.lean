/- Contracts: which chosen soundings can be left out: the program's and the reference's. -/
import Derived.Test.YtakkgagdbmlafaaSelE
import Derived.Test.YtakkgagdbmlafaaDel
namespace Go.Proofs.Ytakkgagdbmlafaa
open Go.RowKit
/-- without number i all are stood for -/
def cloP (f : Nat → SD) (n : Nat) (L : Nat → Int) (m : Nat) (r : Int) (i : Nat) : Bool := decide ((openL f n (woL L i) (m - 1) r).length = 0)
def cloT (f : Nat → SD) (n : Nat) (L : Nat → Int) (m : Nat) (r : Int) (k : Nat) : List Int := pick (cloP f n L m r) L k
def cloL (f : Nat → SD) (n : Nat) (L : Nat → Int) (m : Nat) (r : Int) : List Int := if safeOut f n L m r = true then cloT f n L m r m else []
theorem cloT_len (f : Nat → SD) (n : Nat) (L : Nat → Int) (m : Nat) (r : Int) (k : Nat) : (cloT f n L m r k).length ≤ k := pick_len k
theorem cloT_hit {f : Nat → SD} {n : Nat} {L : Nat → Int} {m : Nat} {r : Int} {k : Nat} (h : cloP f n L m r k = true) : cloT f n L m r (k + 1) = cloT f n L m r k ++ [L k] := pick_hit h
theorem cloT_miss {f : Nat → SD} {n : Nat} {L : Nat → Int} {m : Nat} {r : Int} {k : Nat} (h : cloP f n L m r k = false) : cloT f n L m r (k + 1) = cloT f n L m r k := pick_miss h
theorem cloL_len (f : Nat → SD) (n : Nat) (L : Nat → Int) (m : Nat) (r : Int) : (cloL f n L m r).length ≤ m := by
  unfold cloL
  split
  · exact cloT_len f n L m r m
  · simp
theorem fndB_wo {f : Nat → SD} {n : Nat} {L : Nat → Int} {m i : Nat} (h : fndB f n L m = true) (hi : i < m) : fndB f n (woL L i) (m - 1) = true := by
  refine allUpto_iff.2 (fun k hk => ?_)
  have h1 := allUpto_iff.1 h
  unfold woL
  by_cases hq : k < i
  · simpa [hq] using h1 k (by omega)
  · simpa [hq] using h1 (k + 1) (by omega)
theorem ownsRow_max {w : World} {base : Nat} {e : TypeId} {k n c : Nat} {A : Option Addr} {xs : List Value} (h : w.ownsRow base e k (.slice A n c) n xs) : n ≤ c ∧ c ≤ 9223372036854775807 := by
  rcases h.2 with ⟨hv, h0⟩ | ⟨g, cap, cur, hv, hb, hh, hnc, hmx, _⟩
  · injection hv with _ _ h3
    omega
  · injection hv with _ _ h3
    simp only [maxLen] at hmx
    omega
theorem CanLeave_no (A : Option Addr) (n c : Nat) (f : Nat → SD) (A2 : Option Addr) (n2 c2 : Nat) (L2 : Nat → Int) (r : Int) (w : World) (hS : SlSD w A n f) (hS2 : SlI w A2 n2 L2) (hn : n ≤ 1048576) (hn2 : n2 ≤ 1048576) (h : safeOut f n L2 n2 r = false) :
    Calls Try.prog 44 #[.slice A n c, .slice A2 n2 c2, .int .i64 r] w fun e w' => IntsOut w [] false e w' := by
  have hg := Lib.hid (fun W (hb : Below w.heap.size w W) => IsSelection_any A n c f A2 n2 c2 L2 W (hS.below hb) (hS2.below hb) hn hn2)
  have ht := Lib.hid (fun W (hb : Below w.heap.size w W) (h : askB f n L2 n2 r = true) => notStoodFor_any A n c f A2 n2 c2 L2 r W (hS.below hb) (hS2.below hb) hn hn2 (ask_parts h).1 (ask_parts h).2.1 (ask_parts h).2.2.1)
  have hq : askB f n L2 n2 r = (selB f n L2 n2 && inB r 1 1000) := rfl
  unfold safeOut at h
  rw [← openS_len] at h
  clear hS hS2
  generalize openS f n L2 n2 r = t at ht h
  generalize askB f n L2 n2 r = qq at ht hq h
  generalize selB f n L2 n2 = q at hg hq
  rcases Bool.eq_false_or_eq_true (inB r 1 1000) with hr | hr <;> cases q <;> (rw [hr] at hq; simp only [Bool.and_self, Bool.and_true, Bool.and_false] at hq; subst hq)
  rotate_left
  · have hpos : 0 < t.length := by
      rcases Nat.eq_zero_or_pos t.length with h0 | h0
      · rw [h0] at h; simp at h
      · exact h0
    have hposz : (0 : Int) < (t.length : Int) := by omega
    clear h
    go_enter Try.func44, Try.ntmps44
    go_wp2_with fail
    refine (hg.out _ (by repeat' (first | (with_reducible exact Below.refl _ _) | (with_reducible assumption) | (with_reducible refine Below.alloc ?_ ?_ _) | (with_reducible refine Below.drew ?_) | (with_reducible refine Below.setCell ?_ ?_ _) | (with_reducible refine Below.stepB (by assumption) ?_ ?_) | go_size))).mono ?_
    rintro e w1 ⟨rfl, hbw1⟩
    obtain ⟨hzw1, hcw1, hfw1⟩ := bfacts hbw1; (try simp at hzw1 hcw1 hfw1); (try (have : w.heap.size < w1.heap.size := by omega)); (try (have : w.heap.size + 1 < w1.heap.size := by omega)); (try (have : w.heap.size + 1 + 1 < w1.heap.size := by omega)); (try (have : w.heap.size + 1 + 1 + 1 < w1.heap.size := by omega))
    go_wp2_with (go_at_call 59; refine (isRadius_any _ _).mono ?_; rintro e w' ⟨rfl, rfl⟩)
    refine (ht.out _ (by repeat' (first | (with_reducible exact Below.refl _ _) | (with_reducible assumption) | (with_reducible refine Below.alloc ?_ ?_ _) | (with_reducible refine Below.drew ?_) | (with_reducible refine Below.setCell ?_ ?_ _) | (with_reducible refine Below.stepB (by assumption) ?_ ?_) | go_size)) (by first | trivial | assumption)).mono ?_
    rintro e w2 ⟨A', c', rfl, -, hbw2⟩
    obtain ⟨hzw2, hcw2, hfw2⟩ := bfacts hbw2; (try simp at hzw2 hcw2 hfw2); (try (have : w.heap.size < w2.heap.size := by omega)); (try (have : w.heap.size + 1 < w2.heap.size := by omega)); (try (have : w.heap.size + 1 + 1 < w2.heap.size := by omega)); (try (have : w.heap.size + 1 + 1 + 1 < w2.heap.size := by omega))
    go_wp2
    go_ret2
    exact IntsOut.none rfl rfl (by repeat' (first | (with_reducible exact Below.refl _ _) | (with_reducible assumption) | (with_reducible refine Below.alloc ?_ ?_ _) | (with_reducible refine Below.drew ?_) | (with_reducible refine Below.setCell ?_ ?_ _) | (with_reducible refine Below.stepB (by assumption) ?_ ?_) | go_size))
  all_goals
    clear h
    go_enter Try.func44, Try.ntmps44
    go_wp2_with fail
    refine (hg.out _ (by repeat' (first | (with_reducible exact Below.refl _ _) | (with_reducible assumption) | (with_reducible refine Below.alloc ?_ ?_ _) | (with_reducible refine Below.drew ?_) | (with_reducible refine Below.setCell ?_ ?_ _) | (with_reducible refine Below.stepB (by assumption) ?_ ?_) | go_size))).mono ?_
    rintro e w1 ⟨rfl, hbw1⟩
    obtain ⟨hzw1, hcw1, hfw1⟩ := bfacts hbw1; (try simp at hzw1 hcw1 hfw1); (try (have : w.heap.size < w1.heap.size := by omega)); (try (have : w.heap.size + 1 < w1.heap.size := by omega)); (try (have : w.heap.size + 1 + 1 < w1.heap.size := by omega)); (try (have : w.heap.size + 1 + 1 + 1 < w1.heap.size := by omega))
    go_wp2_with (go_at_call 59; refine (isRadius_any _ _).mono ?_; rintro e w' ⟨rfl, rfl⟩)
    go_ret2
    exact IntsOut.none rfl rfl (by repeat' (first | (with_reducible exact Below.refl _ _) | (with_reducible assumption) | (with_reducible refine Below.alloc ?_ ?_ _) | (with_reducible refine Below.drew ?_) | (with_reducible refine Below.setCell ?_ ?_ _) | (with_reducible refine Below.stepB (by assumption) ?_ ?_) | go_size))
set_option maxHeartbeats 1000000 in
theorem CanLeave_yes (A : Option Addr) (n c : Nat) (f : Nat → SD) (b2 off2 n2 c2 : Nat) (L2 : Nat → Int) (r : Int) (w : World) (hS : SlSD w A n f) (hS2 : SlI w (some ⟨b2, off2, none⟩) n2 L2) (hn : n ≤ 1048576) (hn2 : n2 ≤ 1048576) (h : safeOut f n L2 n2 r = true) :
    Calls Try.prog 44 #[.slice A n c, .slice (some ⟨b2, off2, none⟩) n2 c2, .int .i64 r] w fun e w' => IntsOut w (cloT f n L2 n2 r n2) true e w' := by
  have h0 : askB f n L2 n2 r = true ∧ (openS f n L2 n2 r).length = 0 := by
    rw [openS_len]
    simpa [safeOut] using h
  obtain ⟨hp1, hp2, hp3, hp4⟩ := ask_parts h0.1
  have hg := fun W (hb : Below w.heap.size w W) => IsSelection_any A n c f (some ⟨b2, off2, none⟩) n2 c2 L2 W (hS.below hb) (hS2.below hb) hn hn2
  rw [hp4] at hg
  have HG := Lib.hid hg
  have ht := fun W (hb : Below w.heap.size w W) => notStoodFor_any A n c f (some ⟨b2, off2, none⟩) n2 c2 L2 r W (hS.below hb) (hS2.below hb) hn hn2 hp1 hp2 hp3
  have HT : Hid (∀ W, Below w.heap.size w W → Calls Try.prog 60 #[.slice A n c, .slice (some ⟨b2, off2, none⟩) n2 c2, .int .i64 r] W fun e w' => ∃ A' c', e = .returned (.slice A' 0 c') ∧ Below W.heap.size W w') := fun W hb => (ht W hb).mono fun e w' ⟨A', c', h1, _, h3⟩ => ⟨A', c', by rw [h1, h0.2], h3⟩
  have HW := Lib.hid (fun k (hk : k < n2) g c' W (hb : Below w.heap.size w W) (hO : SlI W (some ⟨g, 0, none⟩) (n2 - 1) (woL L2 k)) => notStoodFor_any A n c f (some ⟨g, 0, none⟩) (n2 - 1) c' (woL L2 k) r W (hS.below hb) hO hn (by omega) hp1 (fndB_wo hp2 hk) hp3)
  have HCP := Lib.hid (fun W (hb : Below w.heap.size w W) => copyInts_any b2 off2 n2 c2 L2 W (hS2.below hb) hn2)
  have hr : inB r 1 1000 = true := hp3
  have HS2 := Lib.hid hS2
  obtain ⟨i0, hi0, hz0, hz1, hz2⟩ := info_parts int1_info
  clear hS hS2 hg ht h h0 hp1 hp2 hp3 hp4
  go_enter Try.func44, Try.ntmps44
  go_wp2_with fail
  refine (HG.out _ (by repeat' (first | (with_reducible exact Below.refl _ _) | (with_reducible assumption) | (with_reducible refine Below.alloc ?_ ?_ _) | (with_reducible refine Below.drew ?_) | (with_reducible refine Below.setCell ?_ ?_ _) | (with_reducible refine Below.stepB (by assumption) ?_ ?_) | go_size))).mono ?_
  rintro e w1 ⟨rfl, hbw1⟩
  obtain ⟨hzw1, hcw1, hfw1⟩ := bfacts hbw1; (try simp at hzw1 hcw1 hfw1); (try (have : w.heap.size < w1.heap.size := by omega)); (try (have : w.heap.size + 1 < w1.heap.size := by omega)); (try (have : w.heap.size + 1 + 1 < w1.heap.size := by omega)); (try (have : w.heap.size + 1 + 1 + 1 < w1.heap.size := by omega))
  go_wp2_with (go_at_call 59; refine (isRadius_any _ _).mono ?_; rintro e w' ⟨rfl, rfl⟩)
  refine (HT.out _ (by repeat' (first | (with_reducible exact Below.refl _ _) | (with_reducible assumption) | (with_reducible refine Below.alloc ?_ ?_ _) | (with_reducible refine Below.drew ?_) | (with_reducible refine Below.setCell ?_ ?_ _) | (with_reducible refine Below.stepB (by assumption) ?_ ?_) | go_size))).mono ?_
  rintro e w2 ⟨A', c', rfl, hbw2⟩
  obtain ⟨hzw2, hcw2, hfw2⟩ := bfacts hbw2; (try simp at hzw2 hcw2 hfw2); (try (have : w.heap.size < w2.heap.size := by omega)); (try (have : w.heap.size + 1 < w2.heap.size := by omega)); (try (have : w.heap.size + 1 + 1 < w2.heap.size := by omega)); (try (have : w.heap.size + 1 + 1 + 1 < w2.heap.size := by omega))
  go_wp2
  have hO0 := Lib.hid (ownsRow_empty w2 3 1)
  go_loopw [8, 32] (fun v8 v32 wr => ∃ k : Nat, k ≤ n2 ∧ v32 = .int .i64 k ∧ Hid (wr.ownsRow w2.heap.size 3 1 v8 (cloT f n L2 n2 r k).length ((cloT f n L2 n2 r k).map (Value.int .i64))) ∧ Below w.heap.size w wr ∧ w2.heap.size ≤ wr.heap.size) (fun _ v32 _ => n2 - (intOf v32).toNat)
  case atStart => exact ⟨0, Nat.zero_le _, rfl, hO0.out, by repeat' (first | (with_reducible exact Below.refl _ _) | (with_reducible assumption) | (with_reducible refine Below.alloc ?_ ?_ _) | (with_reducible refine Below.drew ?_) | (with_reducible refine Below.setCell ?_ ?_ _) | (with_reducible refine Below.stepB (by assumption) ?_ ?_) | go_size), by go_size⟩
  case round =>
    clear hO0
    obtain ⟨k, hk, rfl, hO, hbr, hzr1⟩ := hrel
    have hzr := hbr.size
    obtain ⟨A8, c8, rfl⟩ := ownsRow_form hO.out
    have hlen := cloT_len f n L2 n2 r k
    by_cases hlt : k < n2
    · obtain ⟨b, off, hbo, hbl, hbl2, c0⟩ := SlI.at HS2.out hbr hlt
      obtain ⟨rfl, rfl⟩ : b2 = b ∧ off2 = off := by simpa using hbo
      clear hbo
      go_wp2_with fail
      refine (HCP.out _ hbr).mono ?_
      rintro e w4 ⟨v, rfl, hO4, hbw4⟩
      obtain ⟨A4, c4, rfl⟩ := ownsRow_form hO4
      have hmx := ownsRow_max hO4
      have hown := flat1_own hO4
      obtain ⟨g, rfl⟩ := hown.form (by omega)
      have hrg := hown.range
      have hzw4 := hbw4.size
      have HD := Lib.hid (delete_any g c4 k n2 wr.heap.size L2 w4 hown hmx.1 hmx.2 hlt)
      clear hO4 hown
      go_wp2_with fail
      refine HD.out.mono ?_
      rintro e w5 ⟨rfl, hO5, hk5⟩
      have hzw5 := hk5.size
      have hb5 : Below wr.heap.size wr w5 := hbw4.trans (hk5.below hrg (Nat.le_refl _) hzw4)
      have HO5 := Lib.hid hO5
      have HQ := Lib.hid (ownsRow_below hO.out hb5)
      have hbW5 := hbr.trans (hb5.mono (by omega))
      clear hO5 hk5 hbw4 hrg hO hb5
      go_wp2_with fail
      refine (HW.out k hlt g c4 _ hbW5 (Own.sl HO5.out)).mono ?_
      rintro e w6 ⟨A6, c6, rfl, -, hbw6⟩
      obtain ⟨hzw6, hcw6, hfw6⟩ := bfacts hbw6; (try simp at hzw6 hcw6 hfw6); (try (have : w.heap.size < w6.heap.size := by omega)); (try (have : w.heap.size + 1 < w6.heap.size := by omega)); (try (have : w.heap.size + 1 + 1 < w6.heap.size := by omega)); (try (have : w.heap.size + 1 + 1 + 1 < w6.heap.size := by omega))
      have HQ6 := Lib.hid (ownsRow_below HQ.out hbw6)
      have HOL : Hid (cloP f n L2 n2 r k = decide ((openS f n (woL L2 k) (n2 - 1) r).length = 0)) := by show _ = _; rw [openS_len]; rfl
      generalize (openS f n (woL L2 k) (n2 - 1) r).length = z at HOL ⊢
      rcases Nat.eq_zero_or_pos z with rfl | hz
      · have HE := Lib.hid (cloT_hit (f := f) (n := n) (L := L2) (m := n2) (r := r) (k := k) (by rw [HOL.out]; rfl))
        go_wp2_with (at_builtin; refine wpList_append_int1 _ rfl _ _ 23 rfl w2.heap.size 3 i0 Try.underlying23 hi0 hz0 hz1 hz2 _ _ _ rfl ((HQ6.out.alloc _)) _ _ ((L2 k)) rfl ?_ ?_ ?_ ?_; go_must (focus (simp; done)); go_must (focus omega); go_must (focus (simp; omega)); intro v9 w7 hOw7 hbw7; have hzw7 := hbw7.size; (try simp at hzw7))
        go_roundw
        case rel => exact ⟨k + 1, by omega, by go_num, by rw [HE.out]; exact owns_snoc hOw7, by repeat' (first | (with_reducible exact Below.refl _ _) | (with_reducible assumption) | (with_reducible refine Below.alloc ?_ ?_ _) | (with_reducible refine Below.drew ?_) | (with_reducible refine Below.setCell ?_ ?_ _) | (with_reducible refine Below.stepB (by assumption) ?_ ?_) | go_size), by omega⟩
        case measure => simp [intOf]; omega
      · have HE := Lib.hid (cloT_miss (f := f) (n := n) (L := L2) (m := n2) (r := r) (k := k) (by rw [HOL.out]; exact decide_eq_false (by omega)))
        have hzb : ((z : Int) == 0) = false := by simp; omega
        go_wp2
        go_roundw
        case rel => exact ⟨k + 1, by omega, by go_num, by rw [HE.out]; exact HQ6.out, by repeat' (first | (with_reducible exact Below.refl _ _) | (with_reducible assumption) | (with_reducible refine Below.alloc ?_ ?_ _) | (with_reducible refine Below.drew ?_) | (with_reducible refine Below.setCell ?_ ?_ _) | (with_reducible refine Below.stepB (by assumption) ?_ ?_) | go_size), by omega⟩
        case measure => simp [intOf]; omega
    · obtain rfl : k = n2 := by omega
      go_wp2
      go_ret2
      exact IntsOut.row hO.out rfl rfl (by omega) (by repeat' (first | (with_reducible exact Below.refl _ _) | (with_reducible assumption) | (with_reducible refine Below.alloc ?_ ?_ _) | (with_reducible refine Below.drew ?_) | (with_reducible refine Below.setCell ?_ ?_ _) | (with_reducible refine Below.stepB (by assumption) ?_ ?_) | go_size))
theorem CanLeaveOut_any (A : Option Addr) (n c : Nat) (f : Nat → SD) (b2 off2 n2 c2 : Nat) (L2 : Nat → Int) (r : Int) (w : World) (hS : SlSD w A n f) (hS2 : SlI w (some ⟨b2, off2, none⟩) n2 L2) (hn : n ≤ 1048576) (hn2 : n2 ≤ 1048576) :
    Calls Try.prog 44 #[.slice A n c, .slice (some ⟨b2, off2, none⟩) n2 c2, .int .i64 r] w fun e w' => IntsOut w (cloL f n L2 n2 r) (safeOut f n L2 n2 r) e w' := by
  rcases Bool.eq_false_or_eq_true (safeOut f n L2 n2 r) with h | h
  · rw [cloL, h]
    exact CanLeave_yes A n c f b2 off2 n2 c2 L2 r w hS hS2 hn hn2 h
  · rw [cloL, h]
    exact CanLeave_no A n c f _ n2 c2 L2 r w hS hS2 hn hn2 h
end Go.Proofs.Ytakkgagdbmlafaa
