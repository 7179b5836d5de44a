/- Contracts: the reasons of the live steps of a sounding, the soundings never touched: the reference's. -/
import Derived.Test.YtbgpmbaonjehbaaEdL
namespace Go.Proofs.Ytbgpmbaonjehbaa
open Go.RowKit
set_option maxRecDepth 100000 in
set_option maxHeartbeats 2000000 in
theorem specReasons_any (marks : Int) (b off n c : Nat) (f : Nat → ES) (mark : Int) (w : World) (hS : SlES w (some ⟨b, off, none⟩) n f) (hnc : n ≤ c) (hn : n ≤ 1000) : Calls Try.prog 32 #[.int .i64 marks, .slice (some ⟨b, off, none⟩) n c, .int .i64 mark] w
    fun e w' => VOut w (cntN (reaOk marks f n mark) (reaL f (liveN f n) mark).length) (reaV f n mark) (reaOk marks f n mark) e w' := by
  have hgd := fun W (hb : Below w.heap.size w W) => l14Good_any marks b off n c f W (hS.below hb) hnc hn
  have HS := Lib.hid hS
  rcases Bool.eq_false_or_eq_true (goodEd marks f n) with hg | hg <;> rw [hg] at hgd <;> have HGD := Lib.hid hgd <;> clear hS hgd
  rotate_left
  · have HG : Hid (reaOk marks f n mark = false) := by show _ = _; rw [reaOk, hg]; rfl
    clear hg
    go_enter Try.func32, Try.ntmps32
    go_wp2_with (go_at_call 36; refine (HGD.out _ (by repeat' (first | (with_reducible exact Below.refl _ _) | (with_reducible assumption) | (with_reducible refine Below.alloc ?_ ?_ _) | (with_reducible refine Below.drew ?_) | (with_reducible refine Below.setCell ?_ ?_ _) | (with_reducible refine Below.stepB (by assumption) ?_ ?_) | go_size))).mono ?_; rintro e w1 ⟨rfl, hbw1⟩; obtain ⟨hzw1, hcw1, hfw1⟩ := bfacts hbw1; (try simp at hzw1 hcw1 hfw1); (try (have : w.heap.size < w1.heap.size := by omega)); (try (have : w.heap.size + 1 < w1.heap.size := by omega)); (try (have : w.heap.size + 1 + 1 < w1.heap.size := by omega)); (try (have : w.heap.size + 1 + 1 + 1 < w1.heap.size := by omega)))
    go_ret2
    exact VOut.none (cntN_f HG.out) HG.out (by repeat' (first | (with_reducible exact Below.refl _ _) | (with_reducible assumption) | (with_reducible refine Below.alloc ?_ ?_ _) | (with_reducible refine Below.drew ?_) | (with_reducible refine Below.setCell ?_ ?_ _) | (with_reducible refine Below.stepB (by assumption) ?_ ?_) | go_size))
  obtain ⟨⟨hM1, hM15⟩, hn20, -⟩ := goodEd_bd hg
  obtain ⟨M, rfl⟩ : ∃ M : Nat, marks = M := ⟨marks.toNat, by omega⟩
  have hin := fun W => l1In_any mark 0 ((M : Int) - 1) W
  rcases Bool.eq_false_or_eq_true (inB mark 0 ((M : Int) - 1)) with hq | hq <;> rw [hq] at hin <;> have HIN := Lib.hid hin <;> clear hin
  rotate_left
  · have HG : Hid (reaOk M f n mark = false) := by show _ = _; rw [reaOk, hq, Bool.and_false]
    clear hg hq
    go_enter Try.func32, Try.ntmps32
    go_wp2_with (first | (go_at_call 36; refine (HGD.out _ (by repeat' (first | (with_reducible exact Below.refl _ _) | (with_reducible assumption) | (with_reducible refine Below.alloc ?_ ?_ _) | (with_reducible refine Below.drew ?_) | (with_reducible refine Below.setCell ?_ ?_ _) | (with_reducible refine Below.stepB (by assumption) ?_ ?_) | go_size))).mono ?_; rintro e w1 ⟨rfl, hbw1⟩; obtain ⟨hzw1, hcw1, hfw1⟩ := bfacts hbw1; (try simp at hzw1 hcw1 hfw1); (try (have : w.heap.size < w1.heap.size := by omega)); (try (have : w.heap.size + 1 < w1.heap.size := by omega)); (try (have : w.heap.size + 1 + 1 < w1.heap.size := by omega)); (try (have : w.heap.size + 1 + 1 + 1 < w1.heap.size := by omega))) | (go_at_call 47; with_reducible refine (HIN.out _).mono ?_; rintro e w' ⟨rfl, rfl⟩))
    go_ret2
    exact VOut.none (cntN_f HG.out) HG.out (by repeat' (first | (with_reducible exact Below.refl _ _) | (with_reducible assumption) | (with_reducible refine Below.alloc ?_ ?_ _) | (with_reducible refine Below.drew ?_) | (with_reducible refine Below.setCell ?_ ?_ _) | (with_reducible refine Below.stepB (by assumption) ?_ ?_) | go_size))
  have HG : Hid (reaOk M f n mark = true) := by show _ = _; rw [reaOk, hq, hg]; rfl
  have HL := Lib.hid (fun W (hb : Below w.heap.size w W) => l14Live_any (some ⟨b, off, none⟩) n c f W (HS.out.below hb) hn)
  have HJ : Hid (∀ i, i < (liveN f n).length → (liveN f n).getD i 0 < n) := fun i hi => (liveN_mem (cln_get hi)).1
  have hmn := liveN_len f n
  obtain ⟨q0, hq0, hy0, hy1, hy2⟩ := info_parts str_info
  have hO0 := Lib.hid (ownsRow_empty w 9 1)
  clear hg hq
  obtain ⟨L, hL⟩ : ∃ L, L = liveN f n := ⟨_, rfl⟩
  have HLE := Lib.hid hL
  rw [← hL] at HL HJ hmn
  clear hL
  obtain ⟨m, hm⟩ : ∃ m, m = L.length := ⟨_, rfl⟩
  have HM := Lib.hid hm
  rw [← hm] at HJ hmn
  clear hm
  go_enter Try.func32, Try.ntmps32
  go_wp2_with (first | (go_at_call 36; refine (HGD.out _ (by repeat' (first | (with_reducible exact Below.refl _ _) | (with_reducible assumption) | (with_reducible refine Below.alloc ?_ ?_ _) | (with_reducible refine Below.drew ?_) | (with_reducible refine Below.setCell ?_ ?_ _) | (with_reducible refine Below.stepB (by assumption) ?_ ?_) | go_size))).mono ?_; rintro e w1 ⟨rfl, hbw1⟩; obtain ⟨hzw1, hcw1, hfw1⟩ := bfacts hbw1; (try simp at hzw1 hcw1 hfw1); (try (have : w.heap.size < w1.heap.size := by omega)); (try (have : w.heap.size + 1 < w1.heap.size := by omega)); (try (have : w.heap.size + 1 + 1 < w1.heap.size := by omega)); (try (have : w.heap.size + 1 + 1 + 1 < w1.heap.size := by omega))) | (go_at_call 47; with_reducible refine (HIN.out _).mono ?_; rintro e w' ⟨rfl, rfl⟩))
  refine (HL.out _ (by repeat' (first | (with_reducible exact Below.refl _ _) | (with_reducible assumption) | (with_reducible refine Below.alloc ?_ ?_ _) | (with_reducible refine Below.drew ?_) | (with_reducible refine Below.setCell ?_ ?_ _) | (with_reducible refine Below.stepB (by assumption) ?_ ?_) | go_size))).mono ?_
  rintro e w2 ⟨b2, c2, rfl, hO2, hc2, hb2⟩
  have HO2 : Hid (w2.ownsRow w.heap.size 3 1 (.slice (some ⟨b2, 0, none⟩) m c2) m (natX L)) := by
    show World.ownsRow _ _ _ _ _ _ _
    rw [HM.out]
    exact ownsRow_low hO2 (by omega)
  rw [← HM.out] at hc2 ⊢
  have HB2 := Lib.hid (show Below w.heap.size w w2 from by repeat' (first | (with_reducible exact Below.refl _ _) | (with_reducible assumption) | (with_reducible refine Below.alloc ?_ ?_ _) | (with_reducible refine Below.drew ?_) | (with_reducible refine Below.setCell ?_ ?_ _) | (with_reducible refine Below.stepB (by assumption) ?_ ?_) | go_size))
  have HO0 := Lib.hid (ownsRow_below (ownsRow_below hO0.out (show Below (w.alloc _).heap.size (w.alloc _) w1 from by repeat' (first | (with_reducible exact Below.refl _ _) | (with_reducible assumption) | (with_reducible refine Below.alloc ?_ ?_ _) | (with_reducible refine Below.drew ?_) | (with_reducible refine Below.setCell ?_ ?_ _) | (with_reducible refine Below.stepB (by assumption) ?_ ?_) | go_size))) hb2)
  have hz2 := HB2.out.size
  clear hO0 hO2 hb2 HGD HL hbw1
  go_wp2
  go_loopw [8, 10] (fun v8 v10 wr => ∃ i r b3 c3 : Nat, i ≤ m ∧ v10 = .int .i64 i ∧ v8 = .slice (some ⟨b3, 0, none⟩) r c3 ∧ r ≤ i ∧ Hid (r = (reaL f (L.take i) mark).length) ∧ Hid (wr.ownsRow w.heap.size 9 1 (.slice (some ⟨b3, 0, none⟩) r c3) r (textX (reaL f (L.take i) mark))) ∧ Below w.heap.size w wr ∧ Hid (wr.ownsRow w.heap.size 3 1 (.slice (some ⟨b2, 0, none⟩) m c2) m (natX L))) (fun _ v10 _ => m - (intOf v10).toNat)
  case atStart => exact ⟨0, 0, _, _, Nat.zero_le _, rfl, rfl, Nat.zero_le _, by rw [List.take_zero]; rfl, by rw [List.take_zero]; exact HO0.out, HB2.out, HO2.out⟩
  case round =>
    clear HO0
    obtain ⟨i, r, b3, c3, hi, rfl, rfl, hri, hR, hO, hbr, hLv⟩ := hrel
    have hzr := hbr.size
    by_cases hlt : i < m
    · obtain ⟨hb5, hb6, d0⟩ := OwnI.at (own_nat HM.out hLv.out) (Below.refl _ _) hlt
      have hj : natV L i = ((L.getD i 0 : Nat) : Int) := rfl
      rw [hj] at d0
      have hjn := HJ.out i hlt
      have HTK := Lib.hid (take_snoc (show i < L.length by rw [← HM.out]; exact hlt))
      generalize L.getD i 0 = j5 at d0 hjn HTK
      clear hj
      obtain ⟨b', off', e5, hbl, hbl2, y0, y1, y2, y3⟩ := HS.out.at hbr hjn
      obtain ⟨rfl, rfl⟩ : b = b' ∧ off = off' := by simpa using e5
      clear e5
      by_cases hmk : (f j5).mark = mark
      · have g1 : ((f j5).mark == mark) = true := beq_iff_eq.2 hmk
        have HE : Hid (reaL f (L.take (i + 1)) mark = reaL f (L.take i) mark ++ [(f j5).reason]) := by
          show _ = _
          rw [HTK.out, reaL_hit hmk]
        clear hmk
        go_wp2_with (at_builtin; refine wpList_append_rowK _ rfl _ _ 46 rfl w.heap.size 9 q0 _ 1 16 Try.underlying46 hq0 hy0 hy1 hy2 rfl (by decide) (.slice (some ⟨b3, 0, none⟩) r c3) r (textX (reaL f (L.take i) mark)) rfl (ownsRow_below hO.out (show Below wr.heap.size wr _ from by repeat' (first | (with_reducible exact Below.refl _ _) | (with_reducible assumption) | (with_reducible refine Below.alloc ?_ ?_ _) | (with_reducible refine Below.drew ?_) | (with_reducible refine Below.setCell ?_ ?_ _) | (with_reducible refine Below.stepB (by assumption) ?_ ?_) | go_size))) (by simp) _ 0 1 1 (fun _ _ => .string ⟨(f j5).reason.toArray⟩) rfl ?_ (fun _ _ => rfl) (by omega) (by decide) ?_ ?_; go_must (focus exact one_box (blk_new1 _ (by simp))); go_must (focus (first | omega | (simp; omega) | (simp; done))); intro b9 c9 w9 hO9 hc9 hb9 hbw9 hk9; have hz9 := hbw9.size; (try simp at hz9); have HK9 := Lib.hid (ownsRow_keep (ownsRow_below hLv.out (show Below wr.heap.size wr _ from by repeat' (first | (with_reducible exact Below.refl _ _) | (with_reducible assumption) | (with_reducible refine Below.alloc ?_ ?_ _) | (with_reducible refine Below.drew ?_) | (with_reducible refine Below.setCell ?_ ?_ _) | (with_reducible refine Below.stepB (by assumption) ?_ ?_) | go_size))) (ownsRow_below hO.out (show Below wr.heap.size wr _ from by repeat' (first | (with_reducible exact Below.refl _ _) | (with_reducible assumption) | (with_reducible refine Below.alloc ?_ ?_ _) | (with_reducible refine Below.drew ?_) | (with_reducible refine Below.setCell ?_ ?_ _) | (with_reducible refine Below.stepB (by assumption) ?_ ?_) | go_size))) (by decide) hk9); clear hk9)
        go_roundw
        case rel =>
          refine ⟨i + 1, r + 1, b9, c9, by omega, by go_num, rfl, by omega, ?_, ?_, by repeat' (first | (with_reducible exact Below.refl _ _) | (with_reducible assumption) | (with_reducible refine Below.alloc ?_ ?_ _) | (with_reducible refine Below.drew ?_) | (with_reducible refine Below.setCell ?_ ?_ _) | (with_reducible refine Below.stepB (by assumption) ?_ ?_) | go_size), HK9.out⟩
          · show _ = _
            rw [HE.out, List.length_append, ← hR.out]
            rfl
          · show World.ownsRow _ _ _ _ _ _ _
            rw [HE.out, ← textX_snoc]
            exact hO9
        case measure => simp [intOf]; omega
      · have g1 : ((f j5).mark == mark) = false := beq_eq_false_iff_ne.2 hmk
        have HE : Hid (reaL f (L.take (i + 1)) mark = reaL f (L.take i) mark) := by
          show _ = _
          rw [HTK.out, reaL_miss hmk]
        clear hmk
        go_wp2
        go_roundw
        case rel => exact ⟨i + 1, r, b3, c3, by omega, by go_num, rfl, by omega, by rw [HE.out]; exact hR, by rw [HE.out]; exact ownsRow_below hO.out (show Below wr.heap.size wr _ from by repeat' (first | (with_reducible exact Below.refl _ _) | (with_reducible assumption) | (with_reducible refine Below.alloc ?_ ?_ _) | (with_reducible refine Below.drew ?_) | (with_reducible refine Below.setCell ?_ ?_ _) | (with_reducible refine Below.stepB (by assumption) ?_ ?_) | go_size)), by repeat' (first | (with_reducible exact Below.refl _ _) | (with_reducible assumption) | (with_reducible refine Below.alloc ?_ ?_ _) | (with_reducible refine Below.drew ?_) | (with_reducible refine Below.setCell ?_ ?_ _) | (with_reducible refine Below.stepB (by assumption) ?_ ?_) | go_size), ownsRow_below hLv.out (show Below wr.heap.size wr _ from by repeat' (first | (with_reducible exact Below.refl _ _) | (with_reducible assumption) | (with_reducible refine Below.alloc ?_ ?_ _) | (with_reducible refine Below.drew ?_) | (with_reducible refine Below.setCell ?_ ?_ _) | (with_reducible refine Below.stepB (by assumption) ?_ ?_) | go_size))⟩
        case measure => simp [intOf]; omega
    · obtain rfl : i = m := by omega
      have h0 : L.take i = liveN f n := by rw [HM.out, List.take_length, HLE.out]
      have h1 := hO.out
      have h2 := hR.out
      rw [h0] at h1 h2
      have HX := Lib.hid (And.intro h1 h2)
      clear h0 h1 h2 hO hR
      go_wp2
      go_ret2
      exact VOut.row (own_text HX.out.2 HX.out.1) (by rw [cntN_t HG.out]; exact HX.out.2.symm) HG.out (by repeat' (first | (with_reducible exact Below.refl _ _) | (with_reducible assumption) | (with_reducible refine Below.alloc ?_ ?_ _) | (with_reducible refine Below.drew ?_) | (with_reducible refine Below.setCell ?_ ?_ _) | (with_reducible refine Below.stepB (by assumption) ?_ ?_) | go_size))
/-- the soundings of the first k that no live step is of -/
def untL (f : Nat → ES) (L : List Nat) : Nat → List Int
  | 0 => []
  | k + 1 => if reaL f L k = [] then untL f L k ++ [(k : Int)] else untL f L k
theorem untL_len (f : Nat → ES) (L : List Nat) : ∀ k, (untL f L k).length ≤ k
  | 0 => Nat.le_refl _
  | k + 1 => by
    have := untL_len f L k
    unfold untL
    split
    · rw [List.length_append, List.length_singleton]; omega
    · omega
theorem untL_mem {f : Nat → ES} {L : List Nat} {q : Nat} : ∀ {k : Nat}, q < k → ((q : Int) ∈ untL f L k ↔ reaL f L q = [])
  | 0, h => absurd h (Nat.not_lt_zero _)
  | k + 1, h => by
    have hlow : ∀ k x, x ∈ untL f L k → x < (k : Int) := by
      intro k
      induction k with
      | zero => intro x hx; cases hx
      | succ k ih =>
        intro x hx
        unfold untL at hx
        split at hx
        · rcases List.mem_append.1 hx with h1 | h1
          · have := ih x h1; omega
          · rw [List.mem_singleton.1 h1]; omega
        · have := ih x hx; omega
    rcases Nat.lt_or_ge q k with h1 | h1
    · have ih := untL_mem (f := f) (L := L) (k := k) h1
      unfold untL
      split
      · rw [List.mem_append, List.mem_singleton, ih]
        constructor
        · rintro (h2 | h2)
          · exact h2
          · omega
        · exact fun h2 => .inl h2
      · exact ih
    · obtain rfl : q = k := by omega
      unfold untL
      split
      · next hr => simp [hr]
      · next hr =>
        constructor
        · intro h2
          have := hlow q _ h2
          omega
        · exact fun h2 => absurd h2 hr
def intX (L : List Int) : List Value := L.map (Value.int .i64)
theorem intX_snoc (L : List Int) (x : Int) : intX L ++ [Value.int .i64 x] = intX (L ++ [x]) := by simp [intX]
theorem own_ints {w : World} {base : Nat} {e : TypeId} {A : Option Addr} {n c : Nat} {L : List Int} (hn : n = L.length) (h : w.ownsRow base e 1 (.slice A n c) n (intX L)) : Own w base 1 A n (fun i _ => .int .i64 (L.getD i 0)) :=
  ownsRow_own h fun i j hi hj => by
    obtain rfl : j = 0 := by omega
    subst hn
    simp [intX, List.getD, hi]
set_option maxRecDepth 100000 in
set_option maxHeartbeats 2000000 in
theorem specNever_any (marks : Int) (b off n c : Nat) (f : Nat → ES) (w : World) (hS : SlES w (some ⟨b, off, none⟩) n f) (hnc : n ≤ c) (hn : n ≤ 1000) : Calls Try.prog 26 #[.int .i64 marks, .slice (some ⟨b, off, none⟩) n c] w
    fun e w' => VOut w (cntN (goodEd marks f n) (untL f (liveN f n) marks.toNat).length) (fun i => .int .i64 ((untL f (liveN f n) marks.toNat).getD i 0)) (goodEd marks f n) e w' := by
  have hgd := fun W (hb : Below w.heap.size w W) => l14Good_any marks b off n c f W (hS.below hb) hnc hn
  have HS := Lib.hid hS
  rcases Bool.eq_false_or_eq_true (goodEd marks f n) with hg | hg <;> rw [hg] at hgd <;> have HGD := Lib.hid hgd <;> have HG := Lib.hid hg <;> clear hS hgd
  rotate_left
  · clear hg
    go_enter Try.func26, Try.ntmps26
    go_wp2_with (go_at_call 36; refine (HGD.out _ (by repeat' (first | (with_reducible exact Below.refl _ _) | (with_reducible assumption) | (with_reducible refine Below.alloc ?_ ?_ _) | (with_reducible refine Below.drew ?_) | (with_reducible refine Below.setCell ?_ ?_ _) | (with_reducible refine Below.stepB (by assumption) ?_ ?_) | go_size))).mono ?_; rintro e w1 ⟨rfl, hbw1⟩; obtain ⟨hzw1, hcw1, hfw1⟩ := bfacts hbw1; (try simp at hzw1 hcw1 hfw1); (try (have : w.heap.size < w1.heap.size := by omega)); (try (have : w.heap.size + 1 < w1.heap.size := by omega)); (try (have : w.heap.size + 1 + 1 < w1.heap.size := by omega)); (try (have : w.heap.size + 1 + 1 + 1 < w1.heap.size := by omega)))
    go_ret2
    exact VOut.none (cntN_f HG.out) HG.out (by repeat' (first | (with_reducible exact Below.refl _ _) | (with_reducible assumption) | (with_reducible refine Below.alloc ?_ ?_ _) | (with_reducible refine Below.drew ?_) | (with_reducible refine Below.setCell ?_ ?_ _) | (with_reducible refine Below.stepB (by assumption) ?_ ?_) | go_size))
  obtain ⟨⟨hM1, hM15⟩, hn20, -⟩ := goodEd_bd hg
  obtain ⟨M, rfl⟩ : ∃ M : Nat, marks = M := ⟨marks.toNat, by omega⟩
  clear hg
  have HRF : Hid (∀ i, i < M → ∀ W, Below w.heap.size w W → Calls Try.prog 32 #[.int .i64 (M : Int), .slice (some ⟨b, off, none⟩) n c, .int .i64 (i : Int)] W fun e w' => ∃ A c', e = .returned (.tuple #[.slice A (reaL f (liveN f n) i).length c', .bool true]) ∧ Below W.heap.size W w') := fun i hi W hb =>
    (specReasons_any M b off n c f i W (HS.out.below hb) hnc hn).mono fun e w' ⟨A, c', h1, _, h3⟩ => by
      have ho : reaOk M f n i = true := by rw [reaOk, HG.out, inB_true (by omega) (by omega)]; rfl
      rw [ho, cntN_t rfl] at h1
      exact ⟨A, c', h1, h3⟩
  obtain ⟨q0, hq0, hy0, hy1, hy2⟩ := info_parts nat_info
  have hO0 := Lib.hid (ownsRow_empty w 3 1)
  go_enter Try.func26, Try.ntmps26
  go_wp2_with (go_at_call 36; refine (HGD.out _ (by repeat' (first | (with_reducible exact Below.refl _ _) | (with_reducible assumption) | (with_reducible refine Below.alloc ?_ ?_ _) | (with_reducible refine Below.drew ?_) | (with_reducible refine Below.setCell ?_ ?_ _) | (with_reducible refine Below.stepB (by assumption) ?_ ?_) | go_size))).mono ?_; rintro e w1 ⟨rfl, hbw1⟩; obtain ⟨hzw1, hcw1, hfw1⟩ := bfacts hbw1; (try simp at hzw1 hcw1 hfw1); (try (have : w.heap.size < w1.heap.size := by omega)); (try (have : w.heap.size + 1 < w1.heap.size := by omega)); (try (have : w.heap.size + 1 + 1 < w1.heap.size := by omega)); (try (have : w.heap.size + 1 + 1 + 1 < w1.heap.size := by omega)))
  go_loopw [6, 7] (fun v6 v7 wr => ∃ i r b3 c3 : Nat, i ≤ M ∧ v7 = .int .i64 i ∧ v6 = .slice (some ⟨b3, 0, none⟩) r c3 ∧ r ≤ i ∧ Hid (r = (untL f (liveN f n) i).length) ∧ Hid (wr.ownsRow w.heap.size 3 1 (.slice (some ⟨b3, 0, none⟩) r c3) r (intX (untL f (liveN f n) i))) ∧ Below w.heap.size w wr) (fun _ v7 _ => M - (intOf v7).toNat)
  case atStart => exact ⟨0, 0, _, _, Nat.zero_le _, rfl, rfl, Nat.zero_le _, rfl, ownsRow_below hO0.out (by repeat' (first | (with_reducible exact Below.refl _ _) | (with_reducible assumption) | (with_reducible refine Below.alloc ?_ ?_ _) | (with_reducible refine Below.drew ?_) | (with_reducible refine Below.setCell ?_ ?_ _) | (with_reducible refine Below.stepB (by assumption) ?_ ?_) | go_size)), by repeat' (first | (with_reducible exact Below.refl _ _) | (with_reducible assumption) | (with_reducible refine Below.alloc ?_ ?_ _) | (with_reducible refine Below.drew ?_) | (with_reducible refine Below.setCell ?_ ?_ _) | (with_reducible refine Below.stepB (by assumption) ?_ ?_) | go_size)⟩
  case round =>
    clear hO0
    obtain ⟨i, r, b3, c3, hi, rfl, rfl, hri, hR, hO, hbr⟩ := hrel
    have hzr := hbr.size
    by_cases hlt : i < M
    · have hrf := fun W hb => HRF.out i hlt W hb
      have HU : Hid (untL f (liveN f n) (i + 1) = if reaL f (liveN f n) i = [] then untL f (liveN f n) i ++ [(i : Int)] else untL f (liveN f n) i) := rfl
      rcases Nat.eq_zero_or_pos (reaL f (liveN f n) i).length with h0 | h0
      · have HU2 : Hid (untL f (liveN f n) (i + 1) = untL f (liveN f n) i ++ [(i : Int)]) := by show _ = _; rw [HU.out, if_pos (List.length_eq_zero_iff.1 h0)]
        rw [h0] at hrf
        have HF := Lib.hid hrf
        clear hrf h0
        go_wp2_with (first | (go_at_call 32; refine (HF.out _ (by repeat' (first | (with_reducible exact Below.refl _ _) | (with_reducible assumption) | (with_reducible refine Below.alloc ?_ ?_ _) | (with_reducible refine Below.drew ?_) | (with_reducible refine Below.setCell ?_ ?_ _) | (with_reducible refine Below.stepB (by assumption) ?_ ?_) | go_size))).mono ?_; rintro e w5 ⟨A5, c5, rfl, hbw5⟩; obtain ⟨hzw5, hcw5, hfw5⟩ := bfacts hbw5; (try simp at hzw5 hcw5 hfw5); (try (have : w.heap.size < w5.heap.size := by omega)); (try (have : w.heap.size + 1 < w5.heap.size := by omega)); (try (have : w.heap.size + 1 + 1 < w5.heap.size := by omega)); (try (have : w.heap.size + 1 + 1 + 1 < w5.heap.size := by omega)); have HO5 := Lib.hid (ownsRow_below hO.out hbw5)) | (at_builtin; refine wpList_append_rowS _ rfl _ _ 35 rfl w.heap.size 3 q0 _ 1 8 Try.underlying35 hq0 hy0 hy1 hy2 rfl (by decide) (.slice (some ⟨b3, 0, none⟩) r c3) r (intX (untL f (liveN f n) i)) rfl ((ownsRow_below HO5.out (show Below w5.heap.size w5 _ from by repeat' (first | (with_reducible exact Below.refl _ _) | (with_reducible assumption) | (with_reducible refine Below.alloc ?_ ?_ _) | (with_reducible refine Below.drew ?_) | (with_reducible refine Below.setCell ?_ ?_ _) | (with_reducible refine Below.stepB (by assumption) ?_ ?_) | go_size)))) (by simp) _ 0 1 1 (fun _ _ => .int .i64 (i : Int)) rfl ?_ (fun _ _ => rfl) (by omega) (by decide) ?_ ?_; go_must (focus exact one_box (blk_new1 _ rfl)); go_must (focus (first | omega | (simp; omega) | (simp; done))); intro b9 c9 w9 hO9 hc9 hb9 hbw9; have hz9 := hbw9.size; (try simp at hz9)))
        go_roundw
        case rel =>
          refine ⟨i + 1, r + 1, b9, c9, by omega, by go_num, rfl, by omega, ?_, ?_, by repeat' (first | (with_reducible exact Below.refl _ _) | (with_reducible assumption) | (with_reducible refine Below.alloc ?_ ?_ _) | (with_reducible refine Below.drew ?_) | (with_reducible refine Below.setCell ?_ ?_ _) | (with_reducible refine Below.stepB (by assumption) ?_ ?_) | go_size)⟩
          · show _ = _
            rw [HU2.out, List.length_append, ← hR.out]
            rfl
          · show World.ownsRow _ _ _ _ _ _ _
            rw [HU2.out, ← intX_snoc]
            exact hO9
        case measure => simp [intOf]; omega
      · have HU2 : Hid (untL f (liveN f n) (i + 1) = untL f (liveN f n) i) := by show _ = _; rw [HU.out, if_neg (fun h => by rw [h] at h0; exact absurd h0 (by simp))]
        have hne : (((reaL f (liveN f n) i).length : Int) == 0) = false := by simp; intro h; rw [h] at h0; simp at h0
        generalize (reaL f (liveN f n) i).length = z at hrf hne
        have HF := Lib.hid hrf
        clear hrf h0
        go_wp2_with (go_at_call 32; refine (HF.out _ (by repeat' (first | (with_reducible exact Below.refl _ _) | (with_reducible assumption) | (with_reducible refine Below.alloc ?_ ?_ _) | (with_reducible refine Below.drew ?_) | (with_reducible refine Below.setCell ?_ ?_ _) | (with_reducible refine Below.stepB (by assumption) ?_ ?_) | go_size))).mono ?_; rintro e w5 ⟨A5, c5, rfl, hbw5⟩; obtain ⟨hzw5, hcw5, hfw5⟩ := bfacts hbw5; (try simp at hzw5 hcw5 hfw5); (try (have : w.heap.size < w5.heap.size := by omega)); (try (have : w.heap.size + 1 < w5.heap.size := by omega)); (try (have : w.heap.size + 1 + 1 < w5.heap.size := by omega)); (try (have : w.heap.size + 1 + 1 + 1 < w5.heap.size := by omega)); have HO5 := Lib.hid (ownsRow_below hO.out hbw5))
        go_roundw
        case rel => exact ⟨i + 1, r, b3, c3, by omega, by go_num, rfl, by omega, by rw [HU2.out]; exact hR, by rw [HU2.out]; exact HO5, by repeat' (first | (with_reducible exact Below.refl _ _) | (with_reducible assumption) | (with_reducible refine Below.alloc ?_ ?_ _) | (with_reducible refine Below.drew ?_) | (with_reducible refine Below.setCell ?_ ?_ _) | (with_reducible refine Below.stepB (by assumption) ?_ ?_) | go_size)⟩
        case measure => simp [intOf]; omega
    · obtain rfl : i = M := by omega
      have HX := Lib.hid (own_ints hR.out hO.out)
      go_wp2
      go_ret2
      exact VOut.row HX.out (by rw [cntN_t HG.out, Int.toNat_natCast]; exact hR.out.symm) HG.out (by repeat' (first | (with_reducible exact Below.refl _ _) | (with_reducible assumption) | (with_reducible refine Below.alloc ?_ ?_ _) | (with_reducible refine Below.drew ?_) | (with_reducible refine Below.setCell ?_ ?_ _) | (with_reducible refine Below.stepB (by assumption) ?_ ?_) | go_size))
end Go.Proofs.Ytbgpmbaonjehbaa
