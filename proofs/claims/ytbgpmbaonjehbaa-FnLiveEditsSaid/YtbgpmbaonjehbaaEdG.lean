/- Contracts: the program's judgement on an edit list and the state that it leads to. -/
import Derived.Test.YtbgpmbaonjehbaaEdF
namespace Go.Proofs.Ytbgpmbaonjehbaa
open Go.RowKit
/-- a state lies in block q: the soundings rejected, their shifts, the live steps -/
structure StI (w : World) (lo q M : Nat) (f : Nat → ES) (L : List Nat) (R S V m cV : Nat) : Prop where
  blk : Blk w q 63 #[.slice (some ⟨R, 0, none⟩) M M, .slice (some ⟨S, 0, none⟩) M M, .slice (some ⟨V, 0, none⟩) m cV]
  rej : Own w lo 1 (some ⟨R, 0, none⟩) M (rejV f L)
  shf : OwnI w lo (some ⟨S, 0, none⟩) M (fun i => shiftV f L i)
  liv : w.ownsRow lo 3 1 (.slice (some ⟨V, 0, none⟩) m cV) m (natX L)
  len : m = L.length
  cap : m ≤ cV
theorem StI.below {w w' : World} {lo q M : Nat} {f : Nat → ES} {L : List Nat} {R S V m cV : Nat} (h : StI w lo q M f L R S V m cV) (hb : Below w.heap.size w w') : StI w' lo q M f L R S V m cV :=
  ⟨h.blk.below hb h.blk.lt, Own.below h.rej hb, Own.below h.shf hb, ownsRow_below h.liv hb, h.len, h.cap⟩
theorem live_ok {M n k : Nat} {f : Nat → ES} (h : ∀ i, i < k → formB M (f i) = true) (hk : k ≤ n) : LiveOk M n f (liveN f k) := fun i hi => by
  obtain ⟨h1, h2⟩ := liveN_mem hi
  obtain ⟨⟨a, b⟩, c, d, _⟩ := form_kind (h i h1)
  exact ⟨by omega, ⟨(f i).mark.toNat, by omega, by omega⟩, by omega, d⟩
theorem edited_step {marks : Int} {f : Nat → ES} {k : Nat} (hg : goodE marks f k = true) (hf : formB marks (f k) = true) (hu : (f k).kind = 3 → (liveN f k).length ≠ 0) :
    goodE marks f (k + 1) = inB (shiftV f (liveN f (k + 1)) (f k).mark) (-500) 500 := by
  rw [goodE_step hg, hf, Bool.true_and]
  by_cases h3 : (f k).kind = 3
  · have hb := shift_bd hg ((liveN f k).length - 1) (f k).mark
    rw [← List.dropLast_eq_take, ← liveN_undo h3] at hb
    rw [inB_true hb.1 hb.2, decide_eq_true (hu h3), decide_eq_true (show (f k).kind ≠ 2 by omega), Bool.or_true, Bool.true_or]
    rfl
  · rw [decide_eq_true h3, Bool.true_or, Bool.true_and, liveN_step h3, shiftV_snoc, shStep]
    by_cases h2 : (f k).kind = 2
    · rw [if_pos ⟨rfl, h2⟩, decide_eq_false (fun h => h h2), Bool.false_or]
    · have hb := shift_all hg (f k).mark
      rw [if_neg (fun hc => h2 hc.2), decide_eq_true h2, Bool.true_or, inB_true hb.1 hb.2]
def CpOut (w : World) (L : List Nat) (m : Nat) (e : Ending) (w' : World) : Prop :=
  ∃ b c, e = .returned (.slice (some ⟨b, 0, none⟩) m c) ∧ w'.ownsRow w.heap.size 3 1 (.slice (some ⟨b, 0, none⟩) m c) m (natX L) ∧ m ≤ c ∧ Below w.heap.size w w'
theorem copyInts_m (b off m c : Nat) (L : List Nat) (w : World) (hS : SlI w (some ⟨b, off, none⟩) m (natV L)) (hm : m = L.length) (hl : m ≤ 1000) : Calls Try.prog 55 #[.slice (some ⟨b, off, none⟩) m c] w fun e w' => CpOut w L m e w' := by
  subst hm
  exact copyInts_any b off _ c L w hS rfl hl
/-- what stateOf gives, as a state -/
def StOut2 (w : World) (lo M : Nat) (f : Nat → ES) (L : List Nat) (V m cV : Nat) (e : Ending) (w' : World) : Prop :=
  ∃ q R S, e = .returned (.pointer (some ⟨q, 0, none⟩)) ∧ StI w' lo q M f L R S V m cV ∧ Below w.heap.size w w'
theorem stateOf_st (lo M : Nat) (A : Option Addr) (n c : Nat) (f : Nat → ES) (V cV m : Nat) (L : List Nat) (w : World) (hS : SlES w A n f) (hlo : lo ≤ w.heap.size) (hV : w.ownsRow lo 3 1 (.slice (some ⟨V, 0, none⟩) m cV) m (natX L)) (hm : m = L.length) (hc : m ≤ cV) (hm20 : m ≤ 20) (hM : M ≤ 15) (hL : LiveOk M n f L) :
    Calls Try.prog 53 #[.int .i64 M, .slice A n c, .slice (some ⟨V, 0, none⟩) m cV] w fun e w' => StOut2 w lo M f L V m cV e w' :=
  (stateOf_any M A n c f V cV m L w hS (own_nat hm hV).sl hm hm20 hM hL).mono fun e w' ⟨q, R, S, h1, h2, h3, h4, h5⟩ =>
    ⟨q, R, S, h1, ⟨by rw [hm]; exact h2, Own.more h3 hlo, Own.more h4 hlo, ownsRow_below hV h5, hm, hc⟩, h5⟩
/-- what edited gives -/
def EdOut (w : World) (marks : Int) (n : Nat) (f : Nat → ES) (e : Ending) (w' : World) : Prop :=
  (goodEd marks f n = false ∧ e = .returned (.tuple #[.pointer none, .bool false]) ∧ Below w.heap.size w w') ∨
  (goodEd marks f n = true ∧ ∃ M q R S V m cV : Nat, marks = M ∧ e = .returned (.tuple #[.pointer (some ⟨q, 0, none⟩), .bool true]) ∧ StI w' w.heap.size q M f (liveN f n) R S V m cV ∧ Below w.heap.size w w')
set_option maxRecDepth 100000 in
set_option maxHeartbeats 4000000 in
theorem edited_any (marks : Int) (A : Option Addr) (n c : Nat) (f : Nat → ES) (w : World) (hS : SlES w A n f) (hn : n ≤ 1000) : Calls Try.prog 37 #[.int .i64 marks, .slice A n c] w
    fun e w' => EdOut w marks n f e w' := by
  have hm := fun W => inside_any marks 1 15 W
  rcases Bool.eq_false_or_eq_true (inB marks 1 15) with hq | hq
  rotate_left
  · have HG : Hid (goodEd marks f n = false) := by show _ = _; rw [goodEd, hq]; rfl
    rw [hq] at hm
    have HM := Lib.hid hm
    clear hm hS hq
    go_enter Try.func37, Try.ntmps37
    go_wp2_with (go_at_call 44; with_reducible refine (HM.out _).mono ?_; rintro e w' ⟨rfl, rfl⟩)
    go_ret2
    exact .inl ⟨HG.out, rfl, by repeat' (first | (with_reducible exact Below.refl _ _) | (with_reducible assumption) | (with_reducible refine Below.alloc ?_ ?_ _) | (with_reducible refine Below.drew ?_) | (with_reducible refine Below.setCell ?_ ?_ _) | (with_reducible refine Below.stepB (by assumption) ?_ ?_) | go_size)⟩
  have hq2 := hq
  rw [hq] at hm
  have HM := Lib.hid hm
  obtain ⟨m0, m1⟩ := inB_iff.1 hq2
  clear hm hq2
  by_cases h20 : n ≤ 20
  rotate_left
  · have HG : Hid (goodEd marks f n = false) := by show _ = _; rw [goodEd, decide_eq_false h20, Bool.and_false]; rfl
    have h21 : (20 : Int) < n := by omega
    clear hS hq
    go_enter Try.func37, Try.ntmps37
    go_wp2_with (go_at_call 44; with_reducible refine (HM.out _).mono ?_; rintro e w' ⟨rfl, rfl⟩)
    go_ret2
    exact .inl ⟨HG.out, rfl, by repeat' (first | (with_reducible exact Below.refl _ _) | (with_reducible assumption) | (with_reducible refine Below.alloc ?_ ?_ _) | (with_reducible refine Below.drew ?_) | (with_reducible refine Below.setCell ?_ ?_ _) | (with_reducible refine Below.stepB (by assumption) ?_ ?_) | go_size)⟩
  have h21 : (n : Int) ≤ 20 := by omega
  have HG : Hid (goodEd marks f n = goodE marks f n) := by show _ = _; rw [goodEd, hq, decide_eq_true h20]; rfl
  obtain ⟨M, rfl⟩ : ∃ M : Nat, marks = M := ⟨marks.toNat, by omega⟩
  have hM15 : M ≤ 15 := by omega
  have HS := Lib.hid hS
  have HFO := Lib.hid (fun (s : ES) W => isEditStep_any (M : Int) s W m0 m1)
  have HST := Lib.hid (fun (k V cV m : Nat) W (hb : Below w.heap.size w W) hV hm hc (h : ∀ i, i < k → formB M (f i) = true) (hk : k ≤ n) => stateOf_st w.heap.size M A n c f V cV m (liveN f k) W (hS.below hb) hb.size hV hm hc (by have := liveN_len f k; omega) hM15 (live_ok h hk))
  obtain ⟨q0, hq0, hy0, hy1, hy2⟩ := info_parts nat_info
  have hO0 := Lib.hid (ownsRow_empty w 3 1)
  clear hS hq
  go_enter Try.func37, Try.ntmps37
  go_wp2_with (go_at_call 44; with_reducible refine (HM.out _).mono ?_; rintro e w' ⟨rfl, rfl⟩)
  refine (HST.out 0 w.heap.size 0 0 _ (by repeat' (first | (with_reducible exact Below.refl _ _) | (with_reducible assumption) | (with_reducible refine Below.alloc ?_ ?_ _) | (with_reducible refine Below.drew ?_) | (with_reducible refine Below.setCell ?_ ?_ _) | (with_reducible refine Below.stepB (by assumption) ?_ ?_) | go_size)) hO0.out rfl (Nat.le_refl _) (fun i hi => absurd hi (Nat.not_lt_zero _)) (Nat.zero_le _)).mono ?_
  rintro e w1 ⟨q, R, S, rfl, hSt, hbw1⟩
  have HST1 := Lib.hid hSt
  have HB1 := Lib.hid (show Below w.heap.size w w1 from by repeat' (first | (with_reducible exact Below.refl _ _) | (with_reducible assumption) | (with_reducible refine Below.alloc ?_ ?_ _) | (with_reducible refine Below.drew ?_) | (with_reducible refine Below.setCell ?_ ?_ _) | (with_reducible refine Below.stepB (by assumption) ?_ ?_) | go_size))
  clear hO0 hSt
  go_wp2
  go_loopw [6, 24] (fun v6 v24 wr => ∃ k q R S V m cV : Nat, k ≤ n ∧ v24 = .int .i64 k ∧ v6 = .pointer (some ⟨q, 0, none⟩) ∧ Hid (goodE M f k = true) ∧ Hid (StI wr w.heap.size q M f (liveN f k) R S V m cV) ∧ Below w.heap.size w wr) (fun _ v24 _ => n - (intOf v24).toNat)
  case atStart => exact ⟨0, q, R, S, _, _, _, Nat.zero_le _, rfl, rfl, rfl, HST1.out, HB1.out⟩
  case round =>
    clear HST1 HB1 hbw1
    obtain ⟨k, q, R, S, V, m, cV, hk, rfl, rfl, hg, hst, hbr⟩ := hrel
    have hzr := hbr.size
    have hql := hst.out.blk.lt
    have x1 : wr.cell? ⟨q, 1, none⟩ = some (.slice (some ⟨S, 0, none⟩) M M) := hst.out.blk.cell 1
    have x2 : wr.cell? ⟨q, 2, none⟩ = some (.slice (some ⟨V, 0, none⟩) m cV) := hst.out.blk.cell 2
    by_cases hlt : k < n
    · obtain ⟨b, off, rfl, hbl, hbl2, c0, c1, c2, c3⟩ := HS.out.at hbr hlt
      have hmk : m ≤ k := by have h1 := hst.out.len; have h2 := liveN_len f k; omega
      have hfo := fun W => HFO.out (f k) W
      have HNO := Lib.hid (fun h => goodEd_not (goodE_not (marks := M) (f := f) (k := k) h n hlt))
      rcases Bool.eq_false_or_eq_true (formB M (f k)) with hf | hf
      rotate_left
      · have HGN := Lib.hid (HNO.out (by rw [goodE_step hg.out, hf]; rfl))
        rw [hf] at hfo
        have HFK := Lib.hid hfo
        clear hfo hf
        go_wp2_with ((go_at_call 54; with_reducible refine (HFK.out _).mono ?_; rintro e w7 ⟨rfl, hbw7⟩; obtain ⟨hzw7, hcw7, hfw7⟩ := bfacts hbw7; (try simp at hzw7 hcw7 hfw7); (try (have : w.heap.size < w7.heap.size := by omega)); (try (have : w.heap.size + 1 < w7.heap.size := by omega)); (try (have : w.heap.size + 1 + 1 < w7.heap.size := by omega)); (try (have : w.heap.size + 1 + 1 + 1 < w7.heap.size := by omega))); have hl7 : wr.heap.size < w7.heap.size := by omega)
        go_ret2
        exact .inl ⟨HGN.out, rfl, by repeat' (first | (with_reducible exact Below.refl _ _) | (with_reducible assumption) | (with_reducible refine Below.alloc ?_ ?_ _) | (with_reducible refine Below.drew ?_) | (with_reducible refine Below.setCell ?_ ?_ _) | (with_reducible refine Below.stepB (by assumption) ?_ ?_) | go_size)⟩
      obtain ⟨⟨y0, y1⟩, hkd, ⟨z0, z1⟩, -, -⟩ := form_kind hf
      have HFL : Hid (∀ i, i < k + 1 → formB M (f i) = true) := fun i hi => by
        rcases Nat.lt_or_ge i k with h1 | h1
        · exact goodE_form hg.out h1
        · obtain rfl : i = k := by omega
          exact hf
      have HES := Lib.hid (edited_step hg.out hf)
      rw [hf] at hfo
      have HFK := Lib.hid hfo
      have HCP := Lib.hid (fun W (hb : Below wr.heap.size wr W) => copyInts_m V 0 m cV (liveN f k) W ((own_nat hst.out.len hst.out.liv).sl.below hb) hst.out.len (by omega))
      clear hfo hf
      obtain ⟨p, hp⟩ : ∃ p : Nat, (f k).mark = p := ⟨(f k).mark.toNat, by omega⟩
      have hpM : p < M := by omega
      have HPM := Lib.hid hp
      rw [hp] at c1 HES HFK
      clear hp y0 y1
      by_cases k3 : (f k).kind = 3
      · have HLV := Lib.hid (liveN_undo k3)
        have HLN : Hid (m = (liveN f k).length) := hst.out.len
        rw [k3] at c0 HFK
        rcases Nat.eq_zero_or_pos m with rfl | hm0
        · have HGN := Lib.hid (HNO.out (by
            rw [goodE_step hg.out, k3, ← HLN.out]
            simp))
          clear k3 hkd
          go_wp2_with (first | ((go_at_call 54; with_reducible refine (HFK.out _).mono ?_; rintro e w7 ⟨rfl, hbw7⟩; obtain ⟨hzw7, hcw7, hfw7⟩ := bfacts hbw7; (try simp at hzw7 hcw7 hfw7); (try (have : w.heap.size < w7.heap.size := by omega)); (try (have : w.heap.size + 1 < w7.heap.size := by omega)); (try (have : w.heap.size + 1 + 1 < w7.heap.size := by omega)); (try (have : w.heap.size + 1 + 1 + 1 < w7.heap.size := by omega))); have hl7 : wr.heap.size < w7.heap.size := by omega) | (go_at_call 55; refine (HCP.out _ (by repeat' (first | (with_reducible exact Below.refl _ _) | (with_reducible assumption) | (with_reducible refine Below.alloc ?_ ?_ _) | (with_reducible refine Below.drew ?_) | (with_reducible refine Below.setCell ?_ ?_ _) | (with_reducible refine Below.stepB (by assumption) ?_ ?_) | go_size))).mono ?_; rintro e w8 ⟨b8, c8, rfl, hO8, hc8, hbw8⟩; have HO8 := Lib.hid hO8; clear hO8; obtain ⟨hzw8, hcw8, hfw8⟩ := bfacts hbw8; (try simp at hzw8 hcw8 hfw8); (try (have : w.heap.size < w8.heap.size := by omega)); (try (have : w.heap.size + 1 < w8.heap.size := by omega)); (try (have : w.heap.size + 1 + 1 < w8.heap.size := by omega)); (try (have : w.heap.size + 1 + 1 + 1 < w8.heap.size := by omega)); have hl8 : wr.heap.size < w8.heap.size := by omega) | (at_builtin; (refine wpList_append_rowS _ rfl _ _ 35 rfl w7.heap.size 3 q0 _ 1 8 Try.underlying35 hq0 hy0 hy1 hy2 rfl (by decide) (.slice (some ⟨b8, 0, none⟩) 0 c8) 0 (natX (liveN f k)) rfl (ownsRow_below HO8.out (show Below w8.heap.size w8 _ from by repeat' (first | (with_reducible exact Below.refl _ _) | (with_reducible assumption) | (with_reducible refine Below.alloc ?_ ?_ _) | (with_reducible refine Below.drew ?_) | (with_reducible refine Below.setCell ?_ ?_ _) | (with_reducible refine Below.stepB (by assumption) ?_ ?_) | go_size))) (by simp) _ 0 1 1 (fun _ _ => .int .i64 (k : Int)) rfl ?_ (fun _ _ => rfl) (by omega) (by decide) ?_ ?_); go_must (focus exact one_box (blk_new1 _ rfl)); go_must (focus (first | omega | (simp; omega) | (simp; done))); intro b9 c9 w9 hO9 hc9 hb9 hbw9; have HO9 := Lib.hid hO9; clear hO9; have hzw9 : w8.heap.size ≤ w9.heap.size := (by have := hbw9.size; simp at this; omega); have hcw9 : ∀ b o, b < w7.heap.size → w9.cell? ⟨b, o, none⟩ = w8.cell? ⟨b, o, none⟩ := (fun b o h => (show Below w7.heap.size w8 w9 from by repeat' (first | (with_reducible exact Below.refl _ _) | (with_reducible assumption) | (with_reducible refine Below.alloc ?_ ?_ _) | (with_reducible refine Below.drew ?_) | (with_reducible refine Below.setCell ?_ ?_ _) | (with_reducible refine Below.stepB (by assumption) ?_ ?_) | go_size)).cell (p := ⟨b, o, none⟩) h); have hfw9 : ∀ b o, b < w7.heap.size → w9.frozen? ⟨b, o, none⟩ = w8.frozen? ⟨b, o, none⟩ := (fun b o h => (show Below w7.heap.size w8 w9 from by repeat' (first | (with_reducible exact Below.refl _ _) | (with_reducible assumption) | (with_reducible refine Below.alloc ?_ ?_ _) | (with_reducible refine Below.drew ?_) | (with_reducible refine Below.setCell ?_ ?_ _) | (with_reducible refine Below.stepB (by assumption) ?_ ?_) | go_size)).frozen (p := ⟨b, o, none⟩) h); have hl9 : wr.heap.size < w9.heap.size := (by omega); have hq7 : q < w7.heap.size := (by omega); have hq8 : q < w8.heap.size := (by omega); have hq9 : q < w9.heap.size := (by omega)))
          go_ret2
          exact .inl ⟨HGN.out, rfl, by repeat' (first | (with_reducible exact Below.refl _ _) | (with_reducible assumption) | (with_reducible refine Below.alloc ?_ ?_ _) | (with_reducible refine Below.drew ?_) | (with_reducible refine Below.setCell ?_ ?_ _) | (with_reducible refine Below.stepB (by assumption) ?_ ?_) | go_size)⟩
        · obtain ⟨r, rfl⟩ : ∃ r, m = r + 1 := ⟨m - 1, by omega⟩
          have HES2 := Lib.hid (HES.out (fun _ => by rw [← HLN.out]; omega))
          have HLD : Hid (natX (liveN f (k + 1)) = (natX (liveN f k)).take r ∧ r = (liveN f (k + 1)).length) := by
            show _ ∧ _
            rw [HLV.out, natX_drop (liveN f k) r HLN.out.symm, List.length_dropLast, ← HLN.out]
            exact ⟨rfl, rfl⟩
          have HCQ := Lib.hid (fun W (hb : Below wr.heap.size wr W) => copyInts_m V 0 r cV (liveN f (k + 1)) W (Sl.below (own_nat HLD.out.2 (by rw [HLD.out.1]; exact own_shrink hst.out.liv)).sl hb) HLD.out.2 (by omega))
          clear k3 hkd hm0
          have hrc : (r : Int) ≤ cV := by have := hst.out.cap; omega
          go_wp2_with (first | ((go_at_call 54; with_reducible refine (HFK.out _).mono ?_; rintro e w7 ⟨rfl, hbw7⟩; obtain ⟨hzw7, hcw7, hfw7⟩ := bfacts hbw7; (try simp at hzw7 hcw7 hfw7); (try (have : w.heap.size < w7.heap.size := by omega)); (try (have : w.heap.size + 1 < w7.heap.size := by omega)); (try (have : w.heap.size + 1 + 1 < w7.heap.size := by omega)); (try (have : w.heap.size + 1 + 1 + 1 < w7.heap.size := by omega))); have hl7 : wr.heap.size < w7.heap.size := by omega) | (go_at_call 55; refine (HCP.out _ (by repeat' (first | (with_reducible exact Below.refl _ _) | (with_reducible assumption) | (with_reducible refine Below.alloc ?_ ?_ _) | (with_reducible refine Below.drew ?_) | (with_reducible refine Below.setCell ?_ ?_ _) | (with_reducible refine Below.stepB (by assumption) ?_ ?_) | go_size))).mono ?_; rintro e w8 ⟨b8, c8, rfl, hO8, hc8, hbw8⟩; have HO8 := Lib.hid hO8; clear hO8; obtain ⟨hzw8, hcw8, hfw8⟩ := bfacts hbw8; (try simp at hzw8 hcw8 hfw8); (try (have : w.heap.size < w8.heap.size := by omega)); (try (have : w.heap.size + 1 < w8.heap.size := by omega)); (try (have : w.heap.size + 1 + 1 < w8.heap.size := by omega)); (try (have : w.heap.size + 1 + 1 + 1 < w8.heap.size := by omega)); have hl8 : wr.heap.size < w8.heap.size := by omega) | (at_builtin; (refine wpList_append_rowS _ rfl _ _ 35 rfl w7.heap.size 3 q0 _ 1 8 Try.underlying35 hq0 hy0 hy1 hy2 rfl (by decide) (.slice (some ⟨b8, 0, none⟩) (r + 1) c8) (r + 1) (natX (liveN f k)) rfl (ownsRow_below HO8.out (show Below w8.heap.size w8 _ from by repeat' (first | (with_reducible exact Below.refl _ _) | (with_reducible assumption) | (with_reducible refine Below.alloc ?_ ?_ _) | (with_reducible refine Below.drew ?_) | (with_reducible refine Below.setCell ?_ ?_ _) | (with_reducible refine Below.stepB (by assumption) ?_ ?_) | go_size))) (by simp) _ 0 1 1 (fun _ _ => .int .i64 (k : Int)) rfl ?_ (fun _ _ => rfl) (by omega) (by decide) ?_ ?_); go_must (focus exact one_box (blk_new1 _ rfl)); go_must (focus (first | omega | (simp; omega) | (simp; done))); intro b9 c9 w9 hO9 hc9 hb9 hbw9; have HO9 := Lib.hid hO9; clear hO9; have hzw9 : w8.heap.size ≤ w9.heap.size := (by have := hbw9.size; simp at this; omega); have hcw9 : ∀ b o, b < w7.heap.size → w9.cell? ⟨b, o, none⟩ = w8.cell? ⟨b, o, none⟩ := (fun b o h => (show Below w7.heap.size w8 w9 from by repeat' (first | (with_reducible exact Below.refl _ _) | (with_reducible assumption) | (with_reducible refine Below.alloc ?_ ?_ _) | (with_reducible refine Below.drew ?_) | (with_reducible refine Below.setCell ?_ ?_ _) | (with_reducible refine Below.stepB (by assumption) ?_ ?_) | go_size)).cell (p := ⟨b, o, none⟩) h); have hfw9 : ∀ b o, b < w7.heap.size → w9.frozen? ⟨b, o, none⟩ = w8.frozen? ⟨b, o, none⟩ := (fun b o h => (show Below w7.heap.size w8 w9 from by repeat' (first | (with_reducible exact Below.refl _ _) | (with_reducible assumption) | (with_reducible refine Below.alloc ?_ ?_ _) | (with_reducible refine Below.drew ?_) | (with_reducible refine Below.setCell ?_ ?_ _) | (with_reducible refine Below.stepB (by assumption) ?_ ?_) | go_size)).frozen (p := ⟨b, o, none⟩) h); have hl9 : wr.heap.size < w9.heap.size := (by omega); have hq7 : q < w7.heap.size := (by omega); have hq8 : q < w8.heap.size := (by omega); have hq9 : q < w9.heap.size := (by omega)))
          have HB9 := Lib.hid (show Below wr.heap.size wr w9 from by repeat' (first | (with_reducible exact Below.refl _ _) | (with_reducible assumption) | (with_reducible refine Below.alloc ?_ ?_ _) | (with_reducible refine Below.drew ?_) | (with_reducible refine Below.setCell ?_ ?_ _) | (with_reducible refine Below.stepB (by assumption) ?_ ?_) | go_size))
          have y2 : w9.cell? ⟨q, 2, none⟩ = some (.slice (some ⟨V, 0, none⟩) (r + 1) cV) := (HB9.out.cell (p := ⟨q, 2, none⟩) hql).trans x2
          have s1 : IntKind.i64.wrap (r : Int) = r := by rw [IntKind.wrap_i64]; omega
          have s2 : IntKind.i64.wrap ((r : Int) + 1 - 1) = r := by rw [IntKind.wrap_i64]; omega
          have s3 : (0 : Int) ≤ (r : Int) := by omega
          have y4 : w9.cell? ⟨wr.heap.size, 1, none⟩ = some (.int .i64 p) := by simp [hcw9, hcw8, hcw7, hl7]
          clear x1 x2 HO9 HO8 HCP c3 hcw9 hcw8 hfw9 hfw8
          go_region_held3 (fun w' => w'.cell? ⟨q, 2, none⟩ = some (.slice (some ⟨V, 0, none⟩) (r + 1) cV)) (first | go_keep | ((try dsimp only); (repeat' apply And.intro) <;> go_keep)) ((go_at_call 55; refine (HCQ.out _ (by repeat' (first | (with_reducible exact Below.refl _ _) | (with_reducible assumption) | (with_reducible refine Below.alloc ?_ ?_ _) | (with_reducible refine Below.drew ?_) | (with_reducible refine Below.setCell ?_ ?_ _) | (with_reducible refine Below.stepB (by assumption) ?_ ?_) | go_size))).mono ?_; rintro e w5 ⟨b5, c5, rfl, hO5, hc5, hbw5⟩; have HO5 := Lib.hid hO5; clear hO5; obtain ⟨hzw5, hcw5, hfw5⟩ := bfacts hbw5; (try simp at hzw5 hcw5 hfw5); (try (have : w.heap.size < w5.heap.size := by omega)); (try (have : w.heap.size + 1 < w5.heap.size := by omega)); (try (have : w.heap.size + 1 + 1 < w5.heap.size := by omega)); (try (have : w.heap.size + 1 + 1 + 1 < w5.heap.size := by omega)); have hl5 : wr.heap.size < w5.heap.size := by omega))
          go_wp2_with fail
          refine (HST.out (k + 1) b5 c5 r _ (by repeat' (first | (with_reducible exact Below.refl _ _) | (with_reducible assumption) | (with_reducible refine Below.alloc ?_ ?_ _) | (with_reducible refine Below.drew ?_) | (with_reducible refine Below.setCell ?_ ?_ _) | (with_reducible refine Below.stepB (by assumption) ?_ ?_) | go_size)) (ownsRow_low HO5.out (by show w.heap.size ≤ w9.heap.size; omega)) HLD.out.2 hc5 HFL.out (by omega)).mono ?_
          rintro e w10 ⟨q2, R2, S2, rfl, hSt2, hbw10⟩
          have HS2 := Lib.hid hSt2
          obtain ⟨hzw10, hcw10, hfw10⟩ := bfacts hbw10; (try simp at hzw10 hcw10 hfw10); (try (have : w.heap.size < w10.heap.size := by omega)); (try (have : w.heap.size + 1 < w10.heap.size := by omega)); (try (have : w.heap.size + 1 + 1 < w10.heap.size := by omega)); (try (have : w.heap.size + 1 + 1 + 1 < w10.heap.size := by omega))
          have hl10 : wr.heap.size < w10.heap.size := by omega
          have hq2l := hSt2.blk.lt
          have x3 : w10.cell? ⟨q2, 1, none⟩ = some (.slice (some ⟨S2, 0, none⟩) M M) := hSt2.blk.cell 1
          have t0 := Own.at_ hSt2.shf (i := p) (j := 0) hpM (by decide)
          simp only [Nat.mul_one, Nat.add_zero] at t0
          obtain ⟨hTl, -⟩ := Own.free hSt2.shf (by omega)
          have hp2 : (p : Int) < M := by omega
          have HES3 := HES2.out
          generalize shiftV f (liveN f (k + 1)) p = sv at t0 HES3
          have hin := fun W => inside_any sv (-500) 500 W
          clear hSt2 HES2
          rcases Bool.eq_false_or_eq_true (inB sv (-500) 500) with hi | hi
          · rw [hi] at hin HES3
            have HIN := Lib.hid hin
            have HGY := Lib.hid HES3
            clear hi hin HES3
            go_wp2
            refine wp_region_later (by kernel_rfl) (by kernel_rfl) (fun hlx => ?_)
            repeat (go_big_quiet_step ((go_at_call 44; exact Later.same (HIN.out _))))
            refine wpQuiet_nil ?_
            clear hlx
            intro w11 hbw11
            obtain ⟨hzw11, hcw11, hfw11⟩ := bfacts hbw11; (try simp at hzw11 hcw11 hfw11); (try (have : w.heap.size < w11.heap.size := by omega)); (try (have : w.heap.size + 1 < w11.heap.size := by omega)); (try (have : w.heap.size + 1 + 1 < w11.heap.size := by omega)); (try (have : w.heap.size + 1 + 1 + 1 < w11.heap.size := by omega))
            go_wp2
            go_roundw
            case rel => exact ⟨k + 1, q2, R2, S2, _, _, _, by omega, by go_num, rfl, HGY, StI.below HS2.out (by repeat' (first | (with_reducible exact Below.refl _ _) | (with_reducible assumption) | (with_reducible refine Below.alloc ?_ ?_ _) | (with_reducible refine Below.drew ?_) | (with_reducible refine Below.setCell ?_ ?_ _) | (with_reducible refine Below.stepB (by assumption) ?_ ?_) | go_size)), by repeat' (first | (with_reducible exact Below.refl _ _) | (with_reducible assumption) | (with_reducible refine Below.alloc ?_ ?_ _) | (with_reducible refine Below.drew ?_) | (with_reducible refine Below.setCell ?_ ?_ _) | (with_reducible refine Below.stepB (by assumption) ?_ ?_) | go_size)⟩
            case measure => simp [intOf]; omega
          · rw [hi] at hin HES3
            have HIN := Lib.hid hin
            have HGN := Lib.hid (HNO.out HES3)
            clear hi hin HES3
            go_wp2
            refine wp_region_later (by kernel_rfl) (by kernel_rfl) (fun hlx => ?_)
            repeat (go_big_quiet_step ((go_at_call 44; exact Later.same (HIN.out _))))
            refine wpQuiet_nil ?_
            clear hlx
            intro w11 hbw11
            obtain ⟨hzw11, hcw11, hfw11⟩ := bfacts hbw11; (try simp at hzw11 hcw11 hfw11); (try (have : w.heap.size < w11.heap.size := by omega)); (try (have : w.heap.size + 1 < w11.heap.size := by omega)); (try (have : w.heap.size + 1 + 1 < w11.heap.size := by omega)); (try (have : w.heap.size + 1 + 1 + 1 < w11.heap.size := by omega))
            go_wp2
            go_ret2
            exact .inl ⟨HGN.out, rfl, by repeat' (first | (with_reducible exact Below.refl _ _) | (with_reducible assumption) | (with_reducible refine Below.alloc ?_ ?_ _) | (with_reducible refine Below.drew ?_) | (with_reducible refine Below.setCell ?_ ?_ _) | (with_reducible refine Below.stepB (by assumption) ?_ ?_) | go_size)⟩
      · have hk3 : ((f k).kind == 3) = false := beq_eq_false_iff_ne.2 k3
        have HLV := Lib.hid (liveN_step k3)
        have HES2 := Lib.hid (HES.out (fun h => absurd h k3))
        clear k3 hkd
        generalize (f k).kind = kd at c0 HFK hk3
        go_wp2_with (first | ((go_at_call 54; with_reducible refine (HFK.out _).mono ?_; rintro e w7 ⟨rfl, hbw7⟩; obtain ⟨hzw7, hcw7, hfw7⟩ := bfacts hbw7; (try simp at hzw7 hcw7 hfw7); (try (have : w.heap.size < w7.heap.size := by omega)); (try (have : w.heap.size + 1 < w7.heap.size := by omega)); (try (have : w.heap.size + 1 + 1 < w7.heap.size := by omega)); (try (have : w.heap.size + 1 + 1 + 1 < w7.heap.size := by omega))); have hl7 : wr.heap.size < w7.heap.size := by omega) | (go_at_call 55; refine (HCP.out _ (by repeat' (first | (with_reducible exact Below.refl _ _) | (with_reducible assumption) | (with_reducible refine Below.alloc ?_ ?_ _) | (with_reducible refine Below.drew ?_) | (with_reducible refine Below.setCell ?_ ?_ _) | (with_reducible refine Below.stepB (by assumption) ?_ ?_) | go_size))).mono ?_; rintro e w8 ⟨b8, c8, rfl, hO8, hc8, hbw8⟩; have HO8 := Lib.hid hO8; clear hO8; obtain ⟨hzw8, hcw8, hfw8⟩ := bfacts hbw8; (try simp at hzw8 hcw8 hfw8); (try (have : w.heap.size < w8.heap.size := by omega)); (try (have : w.heap.size + 1 < w8.heap.size := by omega)); (try (have : w.heap.size + 1 + 1 < w8.heap.size := by omega)); (try (have : w.heap.size + 1 + 1 + 1 < w8.heap.size := by omega)); have hl8 : wr.heap.size < w8.heap.size := by omega) | (at_builtin; (refine wpList_append_rowS _ rfl _ _ 35 rfl w7.heap.size 3 q0 _ 1 8 Try.underlying35 hq0 hy0 hy1 hy2 rfl (by decide) (.slice (some ⟨b8, 0, none⟩) m c8) m (natX (liveN f k)) rfl (ownsRow_below HO8.out (show Below w8.heap.size w8 _ from by repeat' (first | (with_reducible exact Below.refl _ _) | (with_reducible assumption) | (with_reducible refine Below.alloc ?_ ?_ _) | (with_reducible refine Below.drew ?_) | (with_reducible refine Below.setCell ?_ ?_ _) | (with_reducible refine Below.stepB (by assumption) ?_ ?_) | go_size))) (by simp) _ 0 1 1 (fun _ _ => .int .i64 (k : Int)) rfl ?_ (fun _ _ => rfl) (by omega) (by decide) ?_ ?_); go_must (focus exact one_box (blk_new1 _ rfl)); go_must (focus (first | omega | (simp; omega) | (simp; done))); intro b9 c9 w9 hO9 hc9 hb9 hbw9; have HO9 := Lib.hid hO9; clear hO9; have hzw9 : w8.heap.size ≤ w9.heap.size := (by have := hbw9.size; simp at this; omega); have hcw9 : ∀ b o, b < w7.heap.size → w9.cell? ⟨b, o, none⟩ = w8.cell? ⟨b, o, none⟩ := (fun b o h => (show Below w7.heap.size w8 w9 from by repeat' (first | (with_reducible exact Below.refl _ _) | (with_reducible assumption) | (with_reducible refine Below.alloc ?_ ?_ _) | (with_reducible refine Below.drew ?_) | (with_reducible refine Below.setCell ?_ ?_ _) | (with_reducible refine Below.stepB (by assumption) ?_ ?_) | go_size)).cell (p := ⟨b, o, none⟩) h); have hfw9 : ∀ b o, b < w7.heap.size → w9.frozen? ⟨b, o, none⟩ = w8.frozen? ⟨b, o, none⟩ := (fun b o h => (show Below w7.heap.size w8 w9 from by repeat' (first | (with_reducible exact Below.refl _ _) | (with_reducible assumption) | (with_reducible refine Below.alloc ?_ ?_ _) | (with_reducible refine Below.drew ?_) | (with_reducible refine Below.setCell ?_ ?_ _) | (with_reducible refine Below.stepB (by assumption) ?_ ?_) | go_size)).frozen (p := ⟨b, o, none⟩) h); have hl9 : wr.heap.size < w9.heap.size := (by omega); have hq7 : q < w7.heap.size := (by omega); have hq8 : q < w8.heap.size := (by omega); have hq9 : q < w9.heap.size := (by omega)))
        refine (HST.out (k + 1) b9 c9 (m + 1) _ (by repeat' (first | (with_reducible exact Below.refl _ _) | (with_reducible assumption) | (with_reducible refine Below.alloc ?_ ?_ _) | (with_reducible refine Below.drew ?_) | (with_reducible refine Below.setCell ?_ ?_ _) | (with_reducible refine Below.stepB (by assumption) ?_ ?_) | go_size)) (by rw [HLV.out, ← natX_snoc]; exact ownsRow_low HO9.out (by omega)) (by rw [HLV.out, List.length_append, List.length_singleton, ← hst.out.len]) hc9 HFL.out (by omega)).mono ?_
        rintro e w10 ⟨q2, R2, S2, rfl, hSt2, hbw10⟩
        have HS2 := Lib.hid hSt2
        obtain ⟨hzw10, hcw10, hfw10⟩ := bfacts hbw10; (try simp at hzw10 hcw10 hfw10); (try (have : w.heap.size < w10.heap.size := by omega)); (try (have : w.heap.size + 1 < w10.heap.size := by omega)); (try (have : w.heap.size + 1 + 1 < w10.heap.size := by omega)); (try (have : w.heap.size + 1 + 1 + 1 < w10.heap.size := by omega))
        have hl10 : wr.heap.size < w10.heap.size := by omega
        have hq2l := hSt2.blk.lt
        have x3 : w10.cell? ⟨q2, 1, none⟩ = some (.slice (some ⟨S2, 0, none⟩) M M) := hSt2.blk.cell 1
        have t0 := Own.at_ hSt2.shf (i := p) (j := 0) hpM (by decide)
        simp only [Nat.mul_one, Nat.add_zero] at t0
        obtain ⟨hTl, -⟩ := Own.free hSt2.shf (by omega)
        have hp2 : (p : Int) < M := by omega
        have HES3 := HES2.out
        generalize shiftV f (liveN f (k + 1)) p = sv at t0 HES3
        have hin := fun W => inside_any sv (-500) 500 W
        clear hSt2 HES2
        rcases Bool.eq_false_or_eq_true (inB sv (-500) 500) with hi | hi
        · rw [hi] at hin HES3
          have HIN := Lib.hid hin
          have HGY := Lib.hid HES3
          clear hi hin HES3
          go_wp2
          refine wp_region_later (by kernel_rfl) (by kernel_rfl) (fun hlx => ?_)
          repeat (go_big_quiet_step ((go_at_call 44; exact Later.same (HIN.out _))))
          refine wpQuiet_nil ?_
          clear hlx
          intro w11 hbw11
          obtain ⟨hzw11, hcw11, hfw11⟩ := bfacts hbw11; (try simp at hzw11 hcw11 hfw11); (try (have : w.heap.size < w11.heap.size := by omega)); (try (have : w.heap.size + 1 < w11.heap.size := by omega)); (try (have : w.heap.size + 1 + 1 < w11.heap.size := by omega)); (try (have : w.heap.size + 1 + 1 + 1 < w11.heap.size := by omega))
          go_wp2
          go_roundw
          case rel => exact ⟨k + 1, q2, R2, S2, _, _, _, by omega, by go_num, rfl, HGY, StI.below HS2.out (by repeat' (first | (with_reducible exact Below.refl _ _) | (with_reducible assumption) | (with_reducible refine Below.alloc ?_ ?_ _) | (with_reducible refine Below.drew ?_) | (with_reducible refine Below.setCell ?_ ?_ _) | (with_reducible refine Below.stepB (by assumption) ?_ ?_) | go_size)), by repeat' (first | (with_reducible exact Below.refl _ _) | (with_reducible assumption) | (with_reducible refine Below.alloc ?_ ?_ _) | (with_reducible refine Below.drew ?_) | (with_reducible refine Below.setCell ?_ ?_ _) | (with_reducible refine Below.stepB (by assumption) ?_ ?_) | go_size)⟩
          case measure => simp [intOf]; omega
        · rw [hi] at hin HES3
          have HIN := Lib.hid hin
          have HGN := Lib.hid (HNO.out HES3)
          clear hi hin HES3
          go_wp2
          refine wp_region_later (by kernel_rfl) (by kernel_rfl) (fun hlx => ?_)
          repeat (go_big_quiet_step ((go_at_call 44; exact Later.same (HIN.out _))))
          refine wpQuiet_nil ?_
          clear hlx
          intro w11 hbw11
          obtain ⟨hzw11, hcw11, hfw11⟩ := bfacts hbw11; (try simp at hzw11 hcw11 hfw11); (try (have : w.heap.size < w11.heap.size := by omega)); (try (have : w.heap.size + 1 < w11.heap.size := by omega)); (try (have : w.heap.size + 1 + 1 < w11.heap.size := by omega)); (try (have : w.heap.size + 1 + 1 + 1 < w11.heap.size := by omega))
          go_wp2
          go_ret2
          exact .inl ⟨HGN.out, rfl, by repeat' (first | (with_reducible exact Below.refl _ _) | (with_reducible assumption) | (with_reducible refine Below.alloc ?_ ?_ _) | (with_reducible refine Below.drew ?_) | (with_reducible refine Below.setCell ?_ ?_ _) | (with_reducible refine Below.stepB (by assumption) ?_ ?_) | go_size)⟩
    · obtain rfl : k = n := by omega
      have HGY := Lib.hid (HG.out.trans hg.out)
      go_wp2
      go_ret2
      exact .inr ⟨HGY.out, M, q, R, S, V, m, cV, rfl, rfl, hst.out, hbr⟩
end Go.Proofs.Ytbgpmbaonjehbaa
