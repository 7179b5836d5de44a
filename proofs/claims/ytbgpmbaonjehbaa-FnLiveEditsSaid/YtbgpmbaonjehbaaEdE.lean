/- Contracts: whether steps are an edit list: the reference's. -/
import Derived.Test.YtbgpmbaonjehbaaEdD
namespace Go.Proofs.Ytbgpmbaonjehbaa
open Go.RowKit
theorem goodEd_not {marks : Int} {f : Nat → ES} {n : Nat} (h : goodE marks f n = false) : goodEd marks f n = false := by rw [goodEd, h, Bool.and_false]
theorem goodEd_bd {marks : Int} {f : Nat → ES} {n : Nat} (h : goodEd marks f n = true) : (1 ≤ marks ∧ marks ≤ 15) ∧ n ≤ 20 ∧ goodE marks f n = true := by
  simp only [goodEd, Bool.and_eq_true, decide_eq_true_eq, inB_iff] at h
  exact ⟨h.1.1, h.1.2, h.2⟩
/-- one more step: its form, an undo that undoes, a shift within its bounds -/
theorem goodE_step {marks : Int} {f : Nat → ES} {k : Nat} (h : goodE marks f k = true) : goodE marks f (k + 1) = (formB marks (f k) && ((decide ((f k).kind ≠ 3) || decide ((liveN f k).length ≠ 0)) && (decide ((f k).kind ≠ 2) || inB (shiftV f (liveN f k) (f k).mark + (f k).by_) (-500) 500))) := by
  rw [goodE, h, Bool.true_and]
theorem SlES.take {w : World} {A : Option Addr} {n n' : Nat} {f : Nat → ES} (h : SlES w A n f) (hn : n' ≤ n) : SlES w A n' f := fun h0 => by
  obtain ⟨b, off, hA, hb, hc⟩ := h (by omega)
  exact ⟨b, off, hA, hb, fun i j hi hj => hc i j (by omega) hj⟩
set_option maxRecDepth 100000 in
set_option maxHeartbeats 4000000 in
theorem l14Good_any (marks : Int) (b off n c : Nat) (f : Nat → ES) (w : World) (hS : SlES w (some ⟨b, off, none⟩) n f) (hnc : n ≤ c) (hn : n ≤ 1000) : Calls Try.prog 36 #[.int .i64 marks, .slice (some ⟨b, off, none⟩) n c] w
    fun e w' => e = .returned (.bool (goodEd marks f n)) ∧ Below w.heap.size w w' := by
  have hm := fun W => l1In_any marks 1 15 W
  rcases Bool.eq_false_or_eq_true (inB marks 1 15) with hq | hq
  rotate_left
  · have HG : Hid (goodEd marks f n = false) := by show _ = _; rw [goodEd, hq]; rfl
    rw [hq] at hm
    have HM := Lib.hid hm
    clear hm hS hq
    go_enter Try.func36, Try.ntmps36
    go_wp2_with (go_at_call 47; with_reducible refine (HM.out _).mono ?_; rintro e w' ⟨rfl, rfl⟩)
    go_ret
    exact ⟨ret_bool HG.out.symm, by repeat' (first | (with_reducible exact Below.refl _ _) | (with_reducible assumption) | (with_reducible refine Below.alloc ?_ ?_ _) | (with_reducible refine Below.drew ?_) | (with_reducible refine Below.setCell ?_ ?_ _) | (with_reducible refine Below.stepB (by assumption) ?_ ?_) | go_size)⟩
  have hq2 := hq
  rw [hq] at hm
  have HM := Lib.hid hm
  obtain ⟨m0, m1⟩ := inB_iff.1 hq2
  clear hm hq2
  by_cases h20 : n ≤ 20
  rotate_left
  · have HG : Hid (goodEd marks f n = false) := by show _ = _; rw [goodEd, decide_eq_false h20, Bool.and_false]; rfl
    have h21 : (20 : Int) < n := by omega
    clear hS hq
    go_enter Try.func36, Try.ntmps36
    go_wp2_with (go_at_call 47; with_reducible refine (HM.out _).mono ?_; rintro e w' ⟨rfl, rfl⟩)
    go_ret
    exact ⟨ret_bool HG.out.symm, by repeat' (first | (with_reducible exact Below.refl _ _) | (with_reducible assumption) | (with_reducible refine Below.alloc ?_ ?_ _) | (with_reducible refine Below.drew ?_) | (with_reducible refine Below.setCell ?_ ?_ _) | (with_reducible refine Below.stepB (by assumption) ?_ ?_) | go_size)⟩
  have h21 : (n : Int) ≤ 20 := by omega
  have HG : Hid (goodEd marks f n = goodE marks f n) := by show _ = _; rw [goodEd, hq, decide_eq_true h20]; rfl
  have HS := Lib.hid hS
  have HFO := Lib.hid (fun (s : ES) W => l14Form_any marks s W m0 m1)
  have HL := Lib.hid (fun k (hk : k ≤ n) W (hb : Below w.heap.size w W) => l14Live_any (some ⟨b, off, none⟩) k c f W (SlES.take (hS.below hb) hk) (by omega))
  have HSH := Lib.hid (fun k (hk : k ≤ n) mark W (hb : Below w.heap.size w W) (hg : goodE marks f k = true) => l14Shift_any (some ⟨b, off, none⟩) k c f mark W (SlES.take (hS.below hb) hk) (by omega) (fun i hi => (form_kind (goodE_form hg hi)).2.2.1))
  clear hS hq
  go_enter Try.func36, Try.ntmps36
  go_wp2_with (go_at_call 47; with_reducible refine (HM.out _).mono ?_; rintro e w' ⟨rfl, rfl⟩)
  go_loopw [5] (fun v5 wr => ∃ k : Nat, k ≤ n ∧ v5 = .int .i64 k ∧ Hid (goodE marks f k = true) ∧ Below w.heap.size w wr) (fun v5 _ => n - (intOf v5).toNat)
  case atStart => exact ⟨0, Nat.zero_le _, rfl, rfl, Below.refl _ _⟩
  case round =>
    obtain ⟨k, hk, rfl, hg, hbr⟩ := hrel
    have hzr := hbr.size
    by_cases hlt : k < n
    · obtain ⟨b', off', e5, hbl, hbl2, c0, c1, c2, c3⟩ := HS.out.at hbr hlt
      obtain ⟨rfl, rfl⟩ : b = b' ∧ off = off' := by simpa using e5
      clear e5
      have hfo := fun W => HFO.out (f k) W
      have HST := Lib.hid (goodE_step hg.out)
      have HNO := Lib.hid (fun h => goodEd_not (goodE_not (marks := marks) (f := f) (k := k) h n hlt))
      rcases Bool.eq_false_or_eq_true (formB marks (f k)) with hf | hf
      rotate_left
      · have HGN := Lib.hid (HNO.out (by rw [HST.out, hf]; rfl))
        rw [hf] at hfo
        have HFK := Lib.hid hfo
        clear hfo hf
        go_wp2_with (go_at_call 52; with_reducible refine (HFK.out _).mono ?_; rintro e w7 ⟨rfl, hbw7⟩; obtain ⟨hzw7, hcw7, hfw7⟩ := bfacts hbw7; (try simp at hzw7 hcw7 hfw7); (try (have : w.heap.size < w7.heap.size := by omega)); (try (have : w.heap.size + 1 < w7.heap.size := by omega)); (try (have : w.heap.size + 1 + 1 < w7.heap.size := by omega)); (try (have : w.heap.size + 1 + 1 + 1 < w7.heap.size := by omega)))
        go_ret
        exact ⟨ret_bool HGN.out.symm, by repeat' (first | (with_reducible exact Below.refl _ _) | (with_reducible assumption) | (with_reducible refine Below.alloc ?_ ?_ _) | (with_reducible refine Below.drew ?_) | (with_reducible refine Below.setCell ?_ ?_ _) | (with_reducible refine Below.stepB (by assumption) ?_ ?_) | go_size)⟩
      obtain ⟨⟨y0, y1⟩, hkd, ⟨x0, x1⟩, -, -⟩ := form_kind hf
      rw [hf] at hfo HST
      have HFK := Lib.hid hfo
      have HLI := Lib.hid (HL.out k hk)
      have HSK := Lib.hid (fun W hb => HSH.out k hk (f k).mark W hb hg.out)
      have hsb := shift_all hg.out (f k).mark
      have hlen := liveN_len f k
      clear hfo hf
      generalize liveN f k = L at HLI HSK HST hsb hlen
      generalize shiftV f L (f k).mark = s at HSK HST hsb
      obtain ⟨s0, s1⟩ := hsb
      generalize hkk : (f k).kind = kd at c0 hkd HST HFK
      by_cases k3 : kd = 3
      · subst k3
        clear hkd
        obtain ⟨m, hm⟩ : ∃ m, m = L.length := ⟨_, rfl⟩
        rw [← hm] at hlen HST
        have HLM : Hid (∀ W, Below w.heap.size w W → Calls Try.prog 39 #[.slice (some ⟨b, off, none⟩) k c] W fun e w' => ∃ b8 c8, e = .returned (.slice (some ⟨b8, 0, none⟩) m c8) ∧ Below W.heap.size W w') := fun W hb => (HLI.out W hb).mono fun e w' ⟨b8, c8, h1, _, _, h4⟩ => ⟨b8, c8, by rw [hm]; exact h1, h4⟩
        clear hm HLI
        rcases Nat.eq_zero_or_pos m with rfl | hm
        · have HGN := Lib.hid (HNO.out (by rw [HST.out]; rfl))
          go_wp2_with (first | ((go_at_call 52; with_reducible refine (HFK.out _).mono ?_; rintro e w7 ⟨rfl, hbw7⟩; obtain ⟨hzw7, hcw7, hfw7⟩ := bfacts hbw7; (try simp at hzw7 hcw7 hfw7); (try (have : w.heap.size < w7.heap.size := by omega)); (try (have : w.heap.size + 1 < w7.heap.size := by omega)); (try (have : w.heap.size + 1 + 1 < w7.heap.size := by omega)); (try (have : w.heap.size + 1 + 1 + 1 < w7.heap.size := by omega))); have : wr.heap.size < w7.heap.size := by omega) | (go_at_call 39; refine (HLM.out _ (by repeat' (first | (with_reducible exact Below.refl _ _) | (with_reducible assumption) | (with_reducible refine Below.alloc ?_ ?_ _) | (with_reducible refine Below.drew ?_) | (with_reducible refine Below.setCell ?_ ?_ _) | (with_reducible refine Below.stepB (by assumption) ?_ ?_) | go_size))).mono ?_; rintro e w8 ⟨b8, c8, rfl, hbw8⟩; obtain ⟨hzw8, hcw8, hfw8⟩ := bfacts hbw8; (try simp at hzw8 hcw8 hfw8); (try (have : w.heap.size < w8.heap.size := by omega)); (try (have : w.heap.size + 1 < w8.heap.size := by omega)); (try (have : w.heap.size + 1 + 1 < w8.heap.size := by omega)); (try (have : w.heap.size + 1 + 1 + 1 < w8.heap.size := by omega)); have : wr.heap.size < w8.heap.size := by omega))
          go_ret
          exact ⟨ret_bool HGN.out.symm, by repeat' (first | (with_reducible exact Below.refl _ _) | (with_reducible assumption) | (with_reducible refine Below.alloc ?_ ?_ _) | (with_reducible refine Below.drew ?_) | (with_reducible refine Below.setCell ?_ ?_ _) | (with_reducible refine Below.stepB (by assumption) ?_ ?_) | go_size)⟩
        · have HGY : Hid (goodE marks f (k + 1) = true) := by
            show _ = _
            rw [HST.out]
            simp
            omega
          have hmz : ((m : Int) == 0) = false := by simp; omega
          go_wp2_with (first | ((go_at_call 52; with_reducible refine (HFK.out _).mono ?_; rintro e w7 ⟨rfl, hbw7⟩; obtain ⟨hzw7, hcw7, hfw7⟩ := bfacts hbw7; (try simp at hzw7 hcw7 hfw7); (try (have : w.heap.size < w7.heap.size := by omega)); (try (have : w.heap.size + 1 < w7.heap.size := by omega)); (try (have : w.heap.size + 1 + 1 < w7.heap.size := by omega)); (try (have : w.heap.size + 1 + 1 + 1 < w7.heap.size := by omega))); have : wr.heap.size < w7.heap.size := by omega) | (go_at_call 39; refine (HLM.out _ (by repeat' (first | (with_reducible exact Below.refl _ _) | (with_reducible assumption) | (with_reducible refine Below.alloc ?_ ?_ _) | (with_reducible refine Below.drew ?_) | (with_reducible refine Below.setCell ?_ ?_ _) | (with_reducible refine Below.stepB (by assumption) ?_ ?_) | go_size))).mono ?_; rintro e w8 ⟨b8, c8, rfl, hbw8⟩; obtain ⟨hzw8, hcw8, hfw8⟩ := bfacts hbw8; (try simp at hzw8 hcw8 hfw8); (try (have : w.heap.size < w8.heap.size := by omega)); (try (have : w.heap.size + 1 < w8.heap.size := by omega)); (try (have : w.heap.size + 1 + 1 < w8.heap.size := by omega)); (try (have : w.heap.size + 1 + 1 + 1 < w8.heap.size := by omega)); have : wr.heap.size < w8.heap.size := by omega))
          refine wp_region_later (by kernel_rfl) (by kernel_rfl) (fun hlx => ?_)
          repeat (go_big_quiet_step (fail))
          refine wpQuiet_nil ?_
          clear hlx
          intro w9 hbw9
          obtain ⟨hzw9, hcw9, hfw9⟩ := bfacts hbw9; (try simp at hzw9 hcw9 hfw9); (try (have : w.heap.size < w9.heap.size := by omega)); (try (have : w.heap.size + 1 < w9.heap.size := by omega)); (try (have : w.heap.size + 1 + 1 < w9.heap.size := by omega)); (try (have : w.heap.size + 1 + 1 + 1 < w9.heap.size := by omega))
          go_wp2
          go_roundw
          case rel => exact ⟨k + 1, by omega, by go_num, HGY, by repeat' (first | (with_reducible exact Below.refl _ _) | (with_reducible assumption) | (with_reducible refine Below.alloc ?_ ?_ _) | (with_reducible refine Below.drew ?_) | (with_reducible refine Below.setCell ?_ ?_ _) | (with_reducible refine Below.stepB (by assumption) ?_ ?_) | go_size)⟩
          case measure => simp [intOf]; omega
      have e3 : (kd == 3) = false := beq_eq_false_iff_ne.2 k3
      by_cases k2 : kd = 2
      · subst k2
        clear hkd k3
        have hin := fun W => l1In_any (s + (f k).by_) (-500) 500 W
        rcases Bool.eq_false_or_eq_true (inB (s + (f k).by_) (-500) 500) with hi | hi
        · have HGY : Hid (goodE marks f (k + 1) = true) := by
            show _ = _
            rw [HST.out, hi]
            rfl
          rw [hi] at hin
          have HIN := Lib.hid hin
          clear hi hin
          go_wp2_with (first | ((go_at_call 52; with_reducible refine (HFK.out _).mono ?_; rintro e w7 ⟨rfl, hbw7⟩; obtain ⟨hzw7, hcw7, hfw7⟩ := bfacts hbw7; (try simp at hzw7 hcw7 hfw7); (try (have : w.heap.size < w7.heap.size := by omega)); (try (have : w.heap.size + 1 < w7.heap.size := by omega)); (try (have : w.heap.size + 1 + 1 < w7.heap.size := by omega)); (try (have : w.heap.size + 1 + 1 + 1 < w7.heap.size := by omega))); have : wr.heap.size < w7.heap.size := by omega))
          refine wp_region_later (by kernel_rfl) (by kernel_rfl) (fun hlx => ?_)
          repeat (go_big_quiet_step ((first | (go_at_call 41; exact Later.call (HSK.out _ (Later.old _ (by repeat' (first | (with_reducible exact Below.refl _ _) | (with_reducible assumption) | (with_reducible refine Below.alloc ?_ ?_ _) | (with_reducible refine Below.drew ?_) | (with_reducible refine Below.setCell ?_ ?_ _) | (with_reducible refine Below.stepB (by assumption) ?_ ?_) | go_size)) (by omega)))) | (go_at_call 47; exact Later.same (HIN.out _)))))
          refine wpQuiet_nil ?_
          clear hlx
          intro w9 hbw9
          obtain ⟨hzw9, hcw9, hfw9⟩ := bfacts hbw9; (try simp at hzw9 hcw9 hfw9); (try (have : w.heap.size < w9.heap.size := by omega)); (try (have : w.heap.size + 1 < w9.heap.size := by omega)); (try (have : w.heap.size + 1 + 1 < w9.heap.size := by omega)); (try (have : w.heap.size + 1 + 1 + 1 < w9.heap.size := by omega))
          go_wp2
          go_roundw
          case rel => exact ⟨k + 1, by omega, by go_num, HGY, by repeat' (first | (with_reducible exact Below.refl _ _) | (with_reducible assumption) | (with_reducible refine Below.alloc ?_ ?_ _) | (with_reducible refine Below.drew ?_) | (with_reducible refine Below.setCell ?_ ?_ _) | (with_reducible refine Below.stepB (by assumption) ?_ ?_) | go_size)⟩
          case measure => simp [intOf]; omega
        · have HGN := Lib.hid (HNO.out (by rw [HST.out, hi]; rfl))
          rw [hi] at hin
          have HIN := Lib.hid hin
          clear hi hin
          go_wp2_with (first | ((go_at_call 52; with_reducible refine (HFK.out _).mono ?_; rintro e w7 ⟨rfl, hbw7⟩; obtain ⟨hzw7, hcw7, hfw7⟩ := bfacts hbw7; (try simp at hzw7 hcw7 hfw7); (try (have : w.heap.size < w7.heap.size := by omega)); (try (have : w.heap.size + 1 < w7.heap.size := by omega)); (try (have : w.heap.size + 1 + 1 < w7.heap.size := by omega)); (try (have : w.heap.size + 1 + 1 + 1 < w7.heap.size := by omega))); have : wr.heap.size < w7.heap.size := by omega))
          refine wp_region_later (by kernel_rfl) (by kernel_rfl) (fun hlx => ?_)
          repeat (go_big_quiet_step ((first | (go_at_call 41; exact Later.call (HSK.out _ (Later.old _ (by repeat' (first | (with_reducible exact Below.refl _ _) | (with_reducible assumption) | (with_reducible refine Below.alloc ?_ ?_ _) | (with_reducible refine Below.drew ?_) | (with_reducible refine Below.setCell ?_ ?_ _) | (with_reducible refine Below.stepB (by assumption) ?_ ?_) | go_size)) (by omega)))) | (go_at_call 47; exact Later.same (HIN.out _)))))
          refine wpQuiet_nil ?_
          clear hlx
          intro w9 hbw9
          obtain ⟨hzw9, hcw9, hfw9⟩ := bfacts hbw9; (try simp at hzw9 hcw9 hfw9); (try (have : w.heap.size < w9.heap.size := by omega)); (try (have : w.heap.size + 1 < w9.heap.size := by omega)); (try (have : w.heap.size + 1 + 1 < w9.heap.size := by omega)); (try (have : w.heap.size + 1 + 1 + 1 < w9.heap.size := by omega))
          go_wp2
          go_ret
          exact ⟨ret_bool HGN.out.symm, by repeat' (first | (with_reducible exact Below.refl _ _) | (with_reducible assumption) | (with_reducible refine Below.alloc ?_ ?_ _) | (with_reducible refine Below.drew ?_) | (with_reducible refine Below.setCell ?_ ?_ _) | (with_reducible refine Below.stepB (by assumption) ?_ ?_) | go_size)⟩
      · have e2 : (kd == 2) = false := beq_eq_false_iff_ne.2 k2
        have HGY : Hid (goodE marks f (k + 1) = true) := by
          show _ = _
          rw [HST.out, decide_eq_true k3, decide_eq_true k2]
          rfl
        clear k2 k3 hkd
        go_wp2_with (first | ((go_at_call 52; with_reducible refine (HFK.out _).mono ?_; rintro e w7 ⟨rfl, hbw7⟩; obtain ⟨hzw7, hcw7, hfw7⟩ := bfacts hbw7; (try simp at hzw7 hcw7 hfw7); (try (have : w.heap.size < w7.heap.size := by omega)); (try (have : w.heap.size + 1 < w7.heap.size := by omega)); (try (have : w.heap.size + 1 + 1 < w7.heap.size := by omega)); (try (have : w.heap.size + 1 + 1 + 1 < w7.heap.size := by omega))); have : wr.heap.size < w7.heap.size := by omega))
        refine wp_region_later (by kernel_rfl) (by kernel_rfl) (fun hlx => ?_)
        repeat (go_big_quiet_step (fail))
        refine wpQuiet_nil ?_
        clear hlx
        intro w9 hbw9
        obtain ⟨hzw9, hcw9, hfw9⟩ := bfacts hbw9; (try simp at hzw9 hcw9 hfw9); (try (have : w.heap.size < w9.heap.size := by omega)); (try (have : w.heap.size + 1 < w9.heap.size := by omega)); (try (have : w.heap.size + 1 + 1 < w9.heap.size := by omega)); (try (have : w.heap.size + 1 + 1 + 1 < w9.heap.size := by omega))
        go_wp2
        go_roundw
        case rel => exact ⟨k + 1, by omega, by go_num, HGY, by repeat' (first | (with_reducible exact Below.refl _ _) | (with_reducible assumption) | (with_reducible refine Below.alloc ?_ ?_ _) | (with_reducible refine Below.drew ?_) | (with_reducible refine Below.setCell ?_ ?_ _) | (with_reducible refine Below.stepB (by assumption) ?_ ?_) | go_size)⟩
        case measure => simp [intOf]; omega
    · obtain rfl : k = n := by omega
      have HGY := Lib.hid (HG.out.trans hg.out)
      go_wp2
      go_ret
      exact ⟨ret_bool HGY.out.symm, by repeat' (first | (with_reducible exact Below.refl _ _) | (with_reducible assumption) | (with_reducible refine Below.alloc ?_ ?_ _) | (with_reducible refine Below.drew ?_) | (with_reducible refine Below.setCell ?_ ?_ _) | (with_reducible refine Below.stepB (by assumption) ?_ ?_) | go_size)⟩
end Go.Proofs.Ytbgpmbaonjehbaa
