/- Contract: the program's fewest safe ones. -/
import Derived.Test.YtakkgagdbmlafaaFewP
import Derived.Test.YtakkgagdbmlafaaPop
namespace Go.Proofs.Ytakkgagdbmlafaa
open Go.RowKit
def fewOk (f : Nat → SD) (n : Nat) (r : Int) : Bool := shoOk f n r && decide (n ≤ 10)
def fewV (f : Nat → SD) (n : Nat) (r : Int) : Int := if fewOk f n r = true then (fewU f n r (2 ^ n) : Int) else 0
theorem bit_fact : ∀ s : Nat, s < 1024 → ∀ k : Nat, k < 10 → (bits BinOp.and IntKind.i64 ((s : Int) / 2 ^ k) 1 == 1) = s.testBit k := by decide +kernel
theorem Fewest_no (A : Option Addr) (n c : Nat) (f : Nat → SD) (r : Int) (w : World) (hS : SlSD w A n f) (hn : n ≤ 1048576) (h : fewOk f n r = false) :
    Calls Try.prog 26 #[.slice A n c, .int .i64 r] w fun e w' => e = .returned (.tuple #[.int .i64 0, .bool false]) ∧ Below w.heap.size w w' := by
  have hg := Lib.hid (fun W (hb : Below w.heap.size w W) => AreSoundings_any A n c f W (hS.below hb) hn)
  unfold fewOk shoOk at h
  clear hS
  generalize goodNAll f n = q at hg h
  rcases Bool.eq_false_or_eq_true (inB r 1 1000) with hr | hr <;> cases q <;> by_cases h10 : n ≤ 10 <;> (try (rw [hr] at h; simp [h10] at h))
  all_goals
    try clear h
    go_enter Try.func26, Try.ntmps26
    go_wp2_with fail
    refine (hg.out _ (by repeat' (first | (with_reducible exact Below.refl _ _) | (with_reducible assumption) | (with_reducible refine Below.alloc ?_ ?_ _) | (with_reducible refine Below.drew ?_) | (with_reducible refine Below.setCell ?_ ?_ _) | (with_reducible refine Below.stepB (by assumption) ?_ ?_) | go_size))).mono ?_
    rintro e w1 ⟨rfl, hbw1⟩
    obtain ⟨hzw1, hcw1, hfw1⟩ := bfacts hbw1; (try simp at hzw1 hcw1 hfw1); (try (have : w.heap.size < w1.heap.size := by omega)); (try (have : w.heap.size + 1 < w1.heap.size := by omega)); (try (have : w.heap.size + 1 + 1 < w1.heap.size := by omega)); (try (have : w.heap.size + 1 + 1 + 1 < w1.heap.size := by omega))
    go_wp2_with (go_at_call 59; refine (isRadius_any _ _).mono ?_; rintro e w' ⟨rfl, rfl⟩)
    go_ret2
    exact ⟨rfl, by repeat' (first | (with_reducible exact Below.refl _ _) | (with_reducible assumption) | (with_reducible refine Below.alloc ?_ ?_ _) | (with_reducible refine Below.drew ?_) | (with_reducible refine Below.setCell ?_ ?_ _) | (with_reducible refine Below.stepB (by assumption) ?_ ?_) | go_size)⟩
set_option maxRecDepth 100000 in
set_option maxHeartbeats 2000000 in
theorem Fewest_yes (A : Option Addr) (n c : Nat) (f : Nat → SD) (r : Int) (w : World) (hS : SlSD w A n f) (hn : n ≤ 1048576) (h : fewOk f n r = true) :
    Calls Try.prog 26 #[.slice A n c, .int .i64 r] w fun e w' => e = .returned (.tuple #[.int .i64 (fewU f n r (2 ^ n)), .bool true]) ∧ Below w.heap.size w w' := by
  obtain ⟨⟨hgd, hr⟩, h10⟩ : (goodNAll f n = true ∧ inB r 1 1000 = true) ∧ n ≤ 10 := by simpa [fewOk, shoOk] using h
  have hg := fun W (hb : Below w.heap.size w W) => AreSoundings_any A n c f W (hS.below hb) hn
  rw [hgd] at hg
  have HG := Lib.hid hg
  have HT := Lib.hid (fun s A6 c6 W (hb : Below w.heap.size w W) (hO : SlI W A6 (chsS f s n).length (fun i => (chsS f s n).getD i 0)) => notStoodFor_any A n c f A6 (chsS f s n).length c6 (fun i => (chsS f s n).getD i 0) r W (hS.below hb) hO hn (by have := pick_len (p := fun i => s.testBit i) (h := fun i => (f i).id) n; show (pick _ _ n).length ≤ _; omega) hgd (chsS_fnd (Nat.le_refl _)) hr)
  obtain ⟨i0, hi0, hz0, hz1, hz2⟩ := info_parts int_info
  have HS := Lib.hid hS
  clear hS hg hgd h
  obtain ⟨m, hm⟩ : ∃ m, m = 2 ^ n := ⟨_, rfl⟩
  have hm10 : m ≤ 1024 := by rw [hm]; exact Nat.pow_le_pow_right (n := 2) (by decide) h10
  have hsh : wrap64 ((2 : Int) ^ n) = (m : Int) := by
    rw [i64_id]
    · rw [hm]; simp
    · have : (0 : Int) ≤ 2 ^ n := Int.pow_nonneg (by decide)
      omega
    · have : ((2 : Int) ^ n) = (m : Int) := by rw [hm]; simp
      omega
  have HM := Lib.hid hm
  rw [← hm]
  clear hm
  go_enter Try.func26, Try.ntmps26
  go_wp2_with fail
  refine (HG.out _ (by repeat' (first | (with_reducible exact Below.refl _ _) | (with_reducible assumption) | (with_reducible refine Below.alloc ?_ ?_ _) | (with_reducible refine Below.drew ?_) | (with_reducible refine Below.setCell ?_ ?_ _) | (with_reducible refine Below.stepB (by assumption) ?_ ?_) | go_size))).mono ?_
  rintro e w1 ⟨rfl, hbw1⟩
  obtain ⟨hzw1, hcw1, hfw1⟩ := bfacts hbw1; (try simp at hzw1 hcw1 hfw1); (try (have : w.heap.size < w1.heap.size := by omega)); (try (have : w.heap.size + 1 < w1.heap.size := by omega)); (try (have : w.heap.size + 1 + 1 < w1.heap.size := by omega)); (try (have : w.heap.size + 1 + 1 + 1 < w1.heap.size := by omega))
  go_wp2_with (go_at_call 59; refine (isRadius_any _ _).mono ?_; rintro e w' ⟨rfl, rfl⟩)
  rw [hsh]
  clear hsh
  go_loopw [6, 29] (fun v6 v29 wr => ∃ s : Nat, s ≤ m ∧ v29 = .int .i64 s ∧ v6 = .int .i64 (fewU f n r s) ∧ Below w.heap.size w wr) (fun _ v29 _ => m - (intOf v29).toNat)
  case atStart => exact ⟨0, Nat.zero_le _, rfl, rfl, by repeat' (first | (with_reducible exact Below.refl _ _) | (with_reducible assumption) | (with_reducible refine Below.alloc ?_ ?_ _) | (with_reducible refine Below.drew ?_) | (with_reducible refine Below.setCell ?_ ?_ _) | (with_reducible refine Below.stepB (by assumption) ?_ ?_) | go_size)⟩
  case round =>
    obtain ⟨s, hs, rfl, rfl, hbr⟩ := hrel
    have hzr := hbr.size
    have hfl := fewU_le (f := f) (n := n) (r := r) s
    by_cases hlt : s < m
    · have HF : Hid (fewU f n r (s + 1) = if (decide ((chsS f s n).length < fewU f n r s) && safeX f n r (chsS f s n)) = true then (chsS f s n).length else fewU f n r s) := by show _ = _; rw [fewU]
      generalize fewU f n r s = fw at HF hfl ⊢
      have HBR := Lib.hid hbr
      have hO0 := Lib.hid (ownsRow_empty wr 3 1)
      go_wp2
      go_loopw [8, 35] (fun v8 v35 wq => ∃ k : Nat, k ≤ n ∧ v35 = .int .i64 k ∧ Hid (wq.ownsRow wr.heap.size 3 1 v8 (chsS f s k).length ((chsS f s k).map (Value.int .i64))) ∧ Below wr.heap.size wr wq) (fun _ v35 _ => n - (intOf v35).toNat)
      case atStart => exact ⟨0, Nat.zero_le _, rfl, hO0.out, by repeat' (first | (with_reducible exact Below.refl _ _) | (with_reducible assumption) | (with_reducible refine Below.alloc ?_ ?_ _) | (with_reducible refine Below.drew ?_) | (with_reducible refine Below.setCell ?_ ?_ _) | (with_reducible refine Below.stepB (by assumption) ?_ ?_) | go_size)⟩
      case round =>
        rename World => wq
        clear hO0
        obtain ⟨k, hk, rfl, hO, hbq⟩ := hrel
        have hzq := hbq.size
        obtain ⟨A8, c8, rfl⟩ := ownsRow_form hO.out
        have hbw : Below w.heap.size w wq := HBR.out.trans (hbq.mono (by omega))
        by_cases hlt2 : k < n
        · obtain ⟨b, off, rfl, hbl, hbl', x0, x1, x2, x3, x4, -⟩ := HS.out.at hbw hlt2
          have hln : (chsS f s k).length ≤ k := pick_len k
          have hbit := bit_fact s (by omega) k (by omega)
          have hO' := hO.out
          clear hbr hO
          rcases Bool.eq_false_or_eq_true (s.testBit k) with ht | ht
          · have HH := Lib.hid (show chsS f s (k + 1) = chsS f s k ++ [(f k).id] from pick_hit ht)
            rw [ht] at hbit
            have HO := Lib.hid hO'
            clear hO' ht
            generalize chsS f s k = Y at HO HH hln ⊢
            go_wp2_with (at_builtin; refine wpList_append_int1 _ rfl _ _ 23 rfl wr.heap.size 3 i0 Try.underlying23 hi0 hz0 hz1 hz2 _ _ _ rfl (((HO.out.alloc _).alloc _)) _ _ ((f k).id) rfl ?_ ?_ ?_ ?_; go_must (focus (simp; done)); go_must (focus omega); go_must (focus (first | omega | (simp; omega) | (simp; done))); intro v9 w4 hOw4 hbw4; have hzw4 := hbw4.size; (try simp at hzw4))
            go_roundw
            case rel => exact ⟨k + 1, by omega, by go_num, by rw [HH.out]; exact owns_snoc hOw4, by repeat' (first | (with_reducible exact Below.refl _ _) | (with_reducible assumption) | (with_reducible refine Below.alloc ?_ ?_ _) | (with_reducible refine Below.drew ?_) | (with_reducible refine Below.setCell ?_ ?_ _) | (with_reducible refine Below.stepB (by assumption) ?_ ?_) | go_size)⟩
            case measure => simp [intOf]; omega
          · have HH := Lib.hid (show chsS f s (k + 1) = chsS f s k from pick_miss ht)
            rw [ht] at hbit
            have HO := Lib.hid (hO'.alloc (.cells #[.int .i64 (f k).id] 3))
            have HO' := Lib.hid hO'
            clear hO' ht
            go_wp2
            go_roundw
            case rel => exact ⟨k + 1, by omega, by go_num, by rw [HH.out]; exact HO'.out.alloc _, by repeat' (first | (with_reducible exact Below.refl _ _) | (with_reducible assumption) | (with_reducible refine Below.alloc ?_ ?_ _) | (with_reducible refine Below.drew ?_) | (with_reducible refine Below.setCell ?_ ?_ _) | (with_reducible refine Below.stepB (by assumption) ?_ ?_) | go_size)⟩
            case measure => simp [intOf]; omega
        · obtain rfl : k = n := by omega
          have HON := Lib.hid (fun W => show Calls Try.prog 69 #[.int .u64 s] W fun e w' => e = .returned (.int .i64 ((chsS f s k).length : Nat)) ∧ W = w' from by
            have h := ones_any s (by omega) W
            have e : (chsS f s k).length = cntB s 10 := by
              have h1 := cntB_more (x := s) (n := k) (by rw [← HM.out]; exact hlt) (10 - k)
              rw [show k + (10 - k) = 10 by omega] at h1
              rw [h1]
              exact pick_cntB s k
            rw [e]
            exact h)
          have HO := Lib.hid hO.out
          have hu : IntKind.u64.wrap (s : Int) = (s : Int) := by
            have : s < 1024 := by omega
            simp [IntKind.wrap, IntKind.bits, IntKind.signed]
            omega
          have hln : (chsS f s k).length ≤ k := pick_len k
          have HTX := Lib.hid (fun A6 c6 W hb hO => HT.out s A6 c6 W hb hO)
          clear hO hbr
          generalize chsS f s k = X at HO HF HTX HON hln
          have HSF : Hid (safeX f k r X = decide ((openS f k (fun i => X.getD i 0) X.length r).length = 0)) := rfl
          go_wp2_with fail
          refine (HON.out _).mono ?_
          rintro e w5 ⟨rfl, rfl⟩
          have hbw : Below w.heap.size w wq := HBR.out.trans (hbq.mono (by omega))
          by_cases hx : X.length < fw
          · obtain ⟨ol, hol⟩ : ∃ ol, ol = (openS f k (fun i => X.getD i 0) X.length r).length := ⟨_, rfl⟩
            have HOL := Lib.hid hol
            have HTY := Lib.hid (HTX.out A8 c8 _ hbw (ownI_of rfl HO.out).sl)
            go_wp2_with fail
            refine HTY.out.mono ?_
            rintro e w6 ⟨A', c', rfl, -, hbw6⟩
            rw [← hol]
            clear hol
            rcases Nat.eq_zero_or_pos ol with rfl | hp
            · go_wp2
              go_roundw
              case rel => exact ⟨s + 1, by omega, by go_num, by rw [HF.out, HSF.out, ← HOL.out]; simp [hx], hbw.trans (hbw6.mono (by omega))⟩
              case measure => simp [intOf]; omega
            · have hob : ((ol : Int) == 0) = false := by simp; omega
              go_wp2
              go_roundw
              case rel => exact ⟨s + 1, by omega, by go_num, by rw [HF.out, HSF.out, ← HOL.out]; simp [show ¬ ol = 0 by omega], hbw.trans (hbw6.mono (by omega))⟩
              case measure => simp [intOf]; omega
          · go_wp2
            go_roundw
            case rel => exact ⟨s + 1, by omega, by go_num, by rw [HF.out]; simp [hx], hbw⟩
            case measure => simp [intOf]; omega
    · obtain rfl : s = m := by omega
      go_wp2
      go_ret2
      rw [HM.out]
      exact ⟨rfl, hbr⟩
end Go.Proofs.Ytakkgagdbmlafaa
