/- Contract: the soundings never touched: the program's. -/
import Derived.Test.YtbgpmbaonjehbaaEdM
import Derived.Test.YtbgpmbaonjehbaaPlain
import Derived.Shelf.Abstract
import Derived.StillTailTactics
namespace Go.Proofs.Ytbgpmbaonjehbaa
open Go.RowKit
theorem idxInts_any (A : Option Addr) (n c : Nat) (L : Nat → Int) (p : Int → Bool) (g : Nat) (lb : Array Value) (w : World) (hS : SlI w A n L) (hn : n ≤ 1048576)
    (eg : ∀ args w, (callFunc g args).run Try.prog w = .ok (.enter g args) w) (hp : ∀ (k : Nat) W, k < n → Below w.heap.size w W → Calls Try.prog g (#[.int .i64 (L k)] ++ lb) W fun e w' => e = .returned (.bool (p (L k))) ∧ Below W.heap.size W w') :
    Calls Try.prog 57 #[.slice A n c, .func (.func g) #[] lb] w fun e w' => e = .returned (.int .i64 (idxP (fun i => p (L i)) n)) ∧ Below w.heap.size w w' := by
  have HP := Lib.hid hp
  clear hp
  go_enter Try.func57, Try.ntmps57
  go_wp2
  go_loopw [8] (fun v8 wr => ∃ k : Nat, k ≤ n ∧ v8 = .int .i64 k ∧ Hid (∀ i, i < k → p (L i) = false) ∧ Below w.heap.size w wr) (fun v8 _ => n - (intOf v8).toNat)
  case atStart => exact ⟨0, Nat.zero_le _, rfl, fun i hi => absurd hi (by omega), by repeat' (first | (with_reducible exact Below.refl _ _) | (with_reducible assumption) | (with_reducible refine Below.alloc ?_ ?_ _) | (with_reducible refine Below.drew ?_) | (with_reducible refine Below.setCell ?_ ?_ _) | (with_reducible refine Below.stepB (by assumption) ?_ ?_) | go_size)⟩
  case round =>
    obtain ⟨k, hk, rfl, hall, hbr⟩ := hrel
    have hzr := hbr.size
    by_cases hlt : k < n
    · obtain ⟨b, off, rfl, hbl, hbl2, c0⟩ := hS.at hbr hlt
      rcases Bool.eq_false_or_eq_true (p (L k)) with hq | hq
      · have HQ := Lib.hid (idxP_some (p := fun i => p (L i)) hq hall n hlt)
        have HC := Lib.hid (fun W hb => HP.out k W hlt hb)
        rw [hq] at HC
        go_wp2_with (go_at_fn g; refine (HC.out _ (by repeat' (first | (with_reducible exact Below.refl _ _) | (with_reducible assumption) | (with_reducible refine Below.alloc ?_ ?_ _) | (with_reducible refine Below.drew ?_) | (with_reducible refine Below.setCell ?_ ?_ _) | (with_reducible refine Below.stepB (by assumption) ?_ ?_) | go_size))).mono ?_; rintro e w3 ⟨rfl, hbw3⟩; obtain ⟨hzw3, hcw3, hfw3⟩ := bfacts hbw3; (try simp at hzw3 hcw3 hfw3); (try (have : w.heap.size < w3.heap.size := by omega)); (try (have : w.heap.size + 1 < w3.heap.size := by omega)); (try (have : w.heap.size + 1 + 1 < w3.heap.size := by omega)); (try (have : w.heap.size + 1 + 1 + 1 < w3.heap.size := by omega)))
        go_ret
        exact ⟨ret_int HQ.out.symm, by repeat' (first | (with_reducible exact Below.refl _ _) | (with_reducible assumption) | (with_reducible refine Below.alloc ?_ ?_ _) | (with_reducible refine Below.drew ?_) | (with_reducible refine Below.setCell ?_ ?_ _) | (with_reducible refine Below.stepB (by assumption) ?_ ?_) | go_size)⟩
      · have hall2 : Hid (∀ i, i < k + 1 → p (L i) = false) := fun i hi => by
          rcases Nat.lt_or_ge i k with h1 | h1
          · exact hall i h1
          · obtain rfl : i = k := by omega
            exact hq
        have HC := Lib.hid (fun W hb => HP.out k W hlt hb)
        rw [hq] at HC
        go_wp2_with (go_at_fn g; refine (HC.out _ (by repeat' (first | (with_reducible exact Below.refl _ _) | (with_reducible assumption) | (with_reducible refine Below.alloc ?_ ?_ _) | (with_reducible refine Below.drew ?_) | (with_reducible refine Below.setCell ?_ ?_ _) | (with_reducible refine Below.stepB (by assumption) ?_ ?_) | go_size))).mono ?_; rintro e w3 ⟨rfl, hbw3⟩; obtain ⟨hzw3, hcw3, hfw3⟩ := bfacts hbw3; (try simp at hzw3 hcw3 hfw3); (try (have : w.heap.size < w3.heap.size := by omega)); (try (have : w.heap.size + 1 < w3.heap.size := by omega)); (try (have : w.heap.size + 1 + 1 < w3.heap.size := by omega)); (try (have : w.heap.size + 1 + 1 + 1 < w3.heap.size := by omega)))
        go_roundw
        case rel => exact ⟨k + 1, by omega, by go_num, hall2, by repeat' (first | (with_reducible exact Below.refl _ _) | (with_reducible assumption) | (with_reducible refine Below.alloc ?_ ?_ _) | (with_reducible refine Below.drew ?_) | (with_reducible refine Below.setCell ?_ ?_ _) | (with_reducible refine Below.stepB (by assumption) ?_ ?_) | go_size)⟩
        case measure => simp [intOf]; omega
    · obtain rfl : k = n := by omega
      go_wp2
      go_ret
      exact ⟨ret_int (idxP_none hall).symm, by repeat' (first | (with_reducible exact Below.refl _ _) | (with_reducible assumption) | (with_reducible refine Below.alloc ?_ ?_ _) | (with_reducible refine Below.drew ?_) | (with_reducible refine Below.setCell ?_ ?_ _) | (with_reducible refine Below.stepB (by assumption) ?_ ?_) | go_size)⟩
theorem hasInts_any (A : Option Addr) (n c : Nat) (L : Nat → Int) (p : Int → Bool) (g : Nat) (lb : Array Value) (w : World) (hS : SlI w A n L) (hn : n ≤ 1048576)
    (eg : ∀ args w, (callFunc g args).run Try.prog w = .ok (.enter g args) w) (hp : ∀ (k : Nat) W, k < n → Below w.heap.size w W → Calls Try.prog g (#[.int .i64 (L k)] ++ lb) W fun e w' => e = .returned (.bool (p (L k))) ∧ Below W.heap.size W w') :
    Calls Try.prog 42 #[.slice A n c, .func (.func g) #[] lb] w fun e w' => e = .returned (.bool (hasP (fun i => p (L i)) n)) ∧ Below w.heap.size w w' := by
  have hc := Lib.hid (fun W (hb : Below w.heap.size w W) => idxInts_any A n c L p g lb W (hS.below hb) hn eg (fun k W' hk hb' => hp k W' hk (hb.trans (hb'.mono hb.size))))
  unfold hasP
  clear hS hp eg
  generalize idxP (fun i => p (L i)) n = r at hc ⊢
  go_enter Try.func42, Try.ntmps42
  go_wp2_with fail
  refine (hc.out _ (by repeat' (first | (with_reducible exact Below.refl _ _) | (with_reducible assumption) | (with_reducible refine Below.alloc ?_ ?_ _) | (with_reducible refine Below.drew ?_) | (with_reducible refine Below.setCell ?_ ?_ _) | (with_reducible refine Below.stepB (by assumption) ?_ ?_) | go_size))).mono ?_
  rintro e w1 ⟨rfl, hbw1⟩
  obtain ⟨hzw1, hcw1, hfw1⟩ := bfacts hbw1; (try simp at hzw1 hcw1 hfw1); (try (have : w.heap.size < w1.heap.size := by omega)); (try (have : w.heap.size + 1 < w1.heap.size := by omega)); (try (have : w.heap.size + 1 + 1 < w1.heap.size := by omega)); (try (have : w.heap.size + 1 + 1 + 1 < w1.heap.size := by omega))
  go_wp2
  go_ret
  exact ⟨rfl, by repeat' (first | (with_reducible exact Below.refl _ _) | (with_reducible assumption) | (with_reducible refine Below.alloc ?_ ?_ _) | (with_reducible refine Below.drew ?_) | (with_reducible refine Below.setCell ?_ ?_ _) | (with_reducible refine Below.stepB (by assumption) ?_ ?_) | go_size)⟩
/-- a live step is of a sounding -/
def isOf (f : Nat → ES) (q : Int) (x : Int) : Bool := decide ((f x.toNat).mark = q)
theorem has_rea {f : Nat → ES} {L : List Nat} {q : Int} {m : Nat} (hm : m = L.length) : hasP (fun i => isOf f q (natV L i)) m = !decide (reaL f L q = []) := by
  subst hm
  rcases Bool.eq_false_or_eq_true (hasP (fun i => isOf f q (natV L i)) L.length) with h | h
  · rw [h]
    obtain ⟨i, hi, hp⟩ := hasP_true.1 h
    have hne : reaL f L q ≠ [] := fun hr => rea_nil.1 hr _ (cln_get hi) (by simpa [isOf, natV] using hp)
    rw [decide_eq_false hne]
    rfl
  · rw [h]
    have hr : reaL f L q = [] := rea_nil.2 (fun j hj he => by
      obtain ⟨i, hi, rfl⟩ := List.mem_iff_getElem.1 hj
      have := hasP_false.1 h i hi
      simp [isOf, natV, List.getD, hi] at this
      exact this he)
    rw [decide_eq_true hr]
    rfl
theorem enters_never1 : ∀ args w, (callFunc 43 args).run Try.prog w = .ok (.enter 43 args) w := enters_of Try.func43 (by kernel_rfl) rfl
set_option maxRecDepth 100000 in
theorem never1_any (A : Option Addr) (n c j B1 B2 : Nat) (f : Nat → ES) (q : Int) (w : World) (hS : SlES w A n f) (hj : j < n) (h1 : B1 < w.heap.size) (h2 : B2 < w.heap.size) (c1 : w.cell? ⟨B1, 0, none⟩ = some (.slice A n c)) (c2 : w.cell? ⟨B2, 0, none⟩ = some (.int .i64 q)) :
    Calls Try.prog 43 #[.int .i64 (j : Int), .pointer (some ⟨B1, 0, none⟩), .pointer (some ⟨B2, 0, none⟩)] w fun e w' => e = .returned (.bool (isOf f q (j : Int))) ∧ Below w.heap.size w w' := by
  obtain ⟨b, off, rfl, hbl, hbl2, y0, y1, y2, y3⟩ := hS.at (Below.refl _ _) hj
  have hj1 : (j : Int) < n := by omega
  have HX : Hid (isOf f q (j : Int) = ((f j).mark == q)) := rfl
  generalize isOf f q (j : Int) = r at HX ⊢
  generalize (f j).mark = mk at y1 HX
  clear hS y0 y2 y3
  go_enter Try.func43, Try.ntmps43
  go_wp2
  refine wp_region_later (by kernel_rfl) (by kernel_rfl) (fun hlx => ?_)
  repeat (go_big_quiet_step (fail))
  refine wpQuiet_nil ?_
  clear hlx
  intro w1 hbw1
  obtain ⟨hzw1, hcw1, hfw1⟩ := bfacts hbw1; (try simp at hzw1 hcw1 hfw1); (try (have : w.heap.size < w1.heap.size := by omega)); (try (have : w.heap.size + 1 < w1.heap.size := by omega)); (try (have : w.heap.size + 1 + 1 < w1.heap.size := by omega)); (try (have : w.heap.size + 1 + 1 + 1 < w1.heap.size := by omega))
  go_wp2
  go_ret
  exact ⟨ret_bool HX.out.symm, by repeat' (first | (with_reducible exact Below.refl _ _) | (with_reducible assumption) | (with_reducible refine Below.alloc ?_ ?_ _) | (with_reducible refine Below.drew ?_) | (with_reducible refine Below.setCell ?_ ?_ _) | (with_reducible refine Below.stepB (by assumption) ?_ ?_) | go_size)⟩
set_option maxRecDepth 100000 in
set_option maxHeartbeats 2000000 in
theorem NeverTouched_any (marks : Int) (A : Option Addr) (n c : Nat) (f : Nat → ES) (w : World) (hS : SlES w A n f) (hn : n ≤ 1000) : Calls Try.prog 25 #[.int .i64 marks, .slice A n c] w
    fun e w' => VOut w (cntN (goodEd marks f n) (untL f (liveN f n) marks.toNat).length) (fun i => .int .i64 ((untL f (liveN f n) marks.toNat).getD i 0)) (goodEd marks f n) e w' := by
  have HE := Lib.hid (fun W (hb : Below w.heap.size w W) => edited_any marks A n c f W (hS.below hb) hn)
  have HS := Lib.hid hS
  clear hS
  go_enter Try.func25, Try.ntmps25
  go_wp2_with fail
  refine (HE.out _ (by repeat' (first | (with_reducible exact Below.refl _ _) | (with_reducible assumption) | (with_reducible refine Below.alloc ?_ ?_ _) | (with_reducible refine Below.drew ?_) | (with_reducible refine Below.setCell ?_ ?_ _) | (with_reducible refine Below.stepB (by assumption) ?_ ?_) | go_size))).mono ?_
  clear HE
  rintro e w1 (⟨hg, rfl, hb1⟩ | ⟨hg, M, q, R, S, V, m, cV, rfl, rfl, hst, hb1⟩)
  · have HG := Lib.hid hg
    clear hg
    go_wp2
    go_ret2
    exact VOut.none (cntN_f HG.out) HG.out (by repeat' (first | (with_reducible exact Below.refl _ _) | (with_reducible assumption) | (with_reducible refine Below.alloc ?_ ?_ _) | (with_reducible refine Below.drew ?_) | (with_reducible refine Below.setCell ?_ ?_ _) | (with_reducible refine Below.stepB (by assumption) ?_ ?_) | go_size))
  · have HG := Lib.hid hg
    obtain ⟨⟨hM1, hM15⟩, hn20, -⟩ := goodEd_bd hg
    have hql := hst.blk.lt
    have x2 : w1.cell? ⟨q, 2, none⟩ = some (.slice (some ⟨V, 0, none⟩) m cV) := hst.blk.cell 2
    have HV := Lib.hid (own_nat hst.len hst.liv)
    have HM := Lib.hid hst.len
    have hmn : m ≤ n := by have := hst.len; have := liveN_len f n; omega
    have HJ : Hid (∀ i, i < m → (liveN f n).getD i 0 < n) := fun i hi => (liveN_mem (cln_get (by rw [← hst.len]; exact hi))).1
    obtain ⟨q0, hq0, hy0, hy1, hy2⟩ := info_parts nat_info
    have hO0 := Lib.hid (ownsRow_empty w1 3 1)
    have z1 : w1.cell? ⟨w.heap.size, 0, none⟩ = some (.slice A n c) := ((blk_new1 (g := w.heap.size) (t := 24) (cs := #[.slice A n c]) w rfl).below hb1 (by simp)).cell 0
    have hz1 := hb1.size
    simp at hz1
    have HB1 := Lib.hid (show Below w.heap.size w w1 from by repeat' (first | (with_reducible exact Below.refl _ _) | (with_reducible assumption) | (with_reducible refine Below.alloc ?_ ?_ _) | (with_reducible refine Below.drew ?_) | (with_reducible refine Below.setCell ?_ ?_ _) | (with_reducible refine Below.stepB (by assumption) ?_ ?_) | go_size))
    have HCF := Lib.hid (fun (i : Nat) (B2 : Nat) W (hb : Below w1.heap.size w1 W) (h2 : B2 < W.heap.size) (c2 : W.cell? ⟨B2, 0, none⟩ = some (.int .i64 (i : Int))) =>
      hasInts_any (some ⟨V, 0, none⟩) m cV (natV (liveN f n)) (isOf f (i : Int)) 43 #[.pointer (some ⟨w.heap.size, 0, none⟩), .pointer (some ⟨B2, 0, none⟩)] W (HV.out.sl.below hb) (by omega) enters_never1
        (fun k W' hk hb' => never1_any A n c ((liveN f n).getD k 0) w.heap.size B2 f (i : Int) W' ((HS.out.below HB1.out).below (hb.trans (hb'.mono hb.size))) (HJ.out k hk) (by have := hb.size; have := hb'.size; omega) (by have := hb'.size; omega)
          (((hb.trans (hb'.mono hb.size)).cell (p := ⟨w.heap.size, 0, none⟩) (by show w.heap.size < w1.heap.size; omega)).trans z1) ((hb'.cell (p := ⟨B2, 0, none⟩) h2).trans c2)))
    clear hg hst
    go_wp2
    go_loopw [8, 20] (fun v8 v20 wr => ∃ i r b3 c3 : Nat, i ≤ M ∧ v20 = .int .i64 i ∧ v8 = .slice (some ⟨b3, 0, none⟩) r c3 ∧ r ≤ i ∧ Hid (r = (untL f (liveN f n) i).length) ∧ Hid (wr.ownsRow w1.heap.size 3 1 (.slice (some ⟨b3, 0, none⟩) r c3) r (intX (untL f (liveN f n) i))) ∧ Below w1.heap.size w1 wr) (fun _ v20 _ => M - (intOf v20).toNat)
    case atStart => exact ⟨0, 0, _, _, Nat.zero_le _, rfl, rfl, Nat.zero_le _, rfl, hO0.out, by repeat' (first | (with_reducible exact Below.refl _ _) | (with_reducible assumption) | (with_reducible refine Below.alloc ?_ ?_ _) | (with_reducible refine Below.drew ?_) | (with_reducible refine Below.setCell ?_ ?_ _) | (with_reducible refine Below.stepB (by assumption) ?_ ?_) | go_size)⟩
    case round =>
      clear hO0
      obtain ⟨i, r, b3, c3, hi, rfl, rfl, hri, hR, hO, hbr⟩ := hrel
      have hzr := hbr.size
      by_cases hlt : i < M
      · have x2r : wr.cell? ⟨q, 2, none⟩ = some (.slice (some ⟨V, 0, none⟩) m cV) := (hbr.cell (p := ⟨q, 2, none⟩) hql).trans x2
        have hqlr : q < wr.heap.size := by omega
        have hcf := fun W (hb : Below w1.heap.size w1 W) (h2 : wr.heap.size < W.heap.size) c2 => HCF.out i wr.heap.size W hb h2 c2
        have HU : Hid (untL f (liveN f n) (i + 1) = if reaL f (liveN f n) i = [] then untL f (liveN f n) i ++ [(i : Int)] else untL f (liveN f n) i) := rfl
        rw [has_rea HM.out] at hcf
        by_cases h0 : reaL f (liveN f n) i = []
        · have HU2 : Hid (untL f (liveN f n) (i + 1) = untL f (liveN f n) i ++ [(i : Int)]) := by show _ = _; rw [HU.out, if_pos h0]
          rw [decide_eq_true h0] at hcf
          have HF := Lib.hid hcf
          clear hcf h0
          go_wp2_with (first | (go_at_call 42; refine (HF.out _ (by repeat' (first | (with_reducible exact Below.refl _ _) | (with_reducible assumption) | (with_reducible refine Below.alloc ?_ ?_ _) | (with_reducible refine Below.drew ?_) | (with_reducible refine Below.setCell ?_ ?_ _) | (with_reducible refine Below.stepB (by assumption) ?_ ?_) | go_size)) (by simp) (by simp)).mono ?_; rintro e w5 ⟨rfl, hbw5⟩; obtain ⟨hzw5, hcw5, hfw5⟩ := bfacts hbw5; (try simp at hzw5 hcw5 hfw5); (try (have : w.heap.size < w5.heap.size := by omega)); (try (have : w.heap.size + 1 < w5.heap.size := by omega)); (try (have : w.heap.size + 1 + 1 < w5.heap.size := by omega)); (try (have : w.heap.size + 1 + 1 + 1 < w5.heap.size := by omega)); have HO5 := Lib.hid (ownsRow_below (ownsRow_below hO.out (show Below wr.heap.size wr (wr.alloc _) from by repeat' (first | (with_reducible exact Below.refl _ _) | (with_reducible assumption) | (with_reducible refine Below.alloc ?_ ?_ _) | (with_reducible refine Below.drew ?_) | (with_reducible refine Below.setCell ?_ ?_ _) | (with_reducible refine Below.stepB (by assumption) ?_ ?_) | go_size))) hbw5); have hl5 : wr.heap.size < w5.heap.size := by omega) | (at_builtin; refine wpList_append_rowS _ rfl _ _ 35 rfl w1.heap.size 3 q0 _ 1 8 Try.underlying35 hq0 hy0 hy1 hy2 rfl (by decide) (.slice (some ⟨b3, 0, none⟩) r c3) r (intX (untL f (liveN f n) i)) rfl ((ownsRow_below HO5.out (show Below w5.heap.size w5 _ from by repeat' (first | (with_reducible exact Below.refl _ _) | (with_reducible assumption) | (with_reducible refine Below.alloc ?_ ?_ _) | (with_reducible refine Below.drew ?_) | (with_reducible refine Below.setCell ?_ ?_ _) | (with_reducible refine Below.stepB (by assumption) ?_ ?_) | go_size)))) (by simp) _ 0 1 1 (fun _ _ => .int .i64 (i : Int)) rfl ?_ (fun _ _ => rfl) (by omega) (by decide) ?_ ?_; go_must (focus exact one_box (blk_new1 _ rfl)); go_must (focus (first | omega | (simp; omega) | (simp; done))); intro b9 c9 w9 hO9 hc9 hb9 hbw9; have hz9 := hbw9.size; (try simp at hz9)))
          go_roundw
          case rel =>
            refine ⟨i + 1, r + 1, b9, c9, by omega, by go_num, rfl, by omega, ?_, ?_, by repeat' (first | (with_reducible exact Below.refl _ _) | (with_reducible assumption) | (with_reducible refine Below.alloc ?_ ?_ _) | (with_reducible refine Below.drew ?_) | (with_reducible refine Below.setCell ?_ ?_ _) | (with_reducible refine Below.stepB (by assumption) ?_ ?_) | go_size)⟩
            · show _ = _
              rw [HU2.out, List.length_append, ← hR.out]
              rfl
            · show World.ownsRow _ _ _ _ _ _ _
              rw [HU2.out, ← intX_snoc]
              exact hO9
          case measure => simp [intOf]; omega
        · have HU2 : Hid (untL f (liveN f n) (i + 1) = untL f (liveN f n) i) := by show _ = _; rw [HU.out, if_neg h0]
          rw [decide_eq_false h0] at hcf
          have HF := Lib.hid hcf
          clear hcf h0
          go_wp2_with (go_at_call 42; refine (HF.out _ (by repeat' (first | (with_reducible exact Below.refl _ _) | (with_reducible assumption) | (with_reducible refine Below.alloc ?_ ?_ _) | (with_reducible refine Below.drew ?_) | (with_reducible refine Below.setCell ?_ ?_ _) | (with_reducible refine Below.stepB (by assumption) ?_ ?_) | go_size)) (by simp) (by simp)).mono ?_; rintro e w5 ⟨rfl, hbw5⟩; obtain ⟨hzw5, hcw5, hfw5⟩ := bfacts hbw5; (try simp at hzw5 hcw5 hfw5); (try (have : w.heap.size < w5.heap.size := by omega)); (try (have : w.heap.size + 1 < w5.heap.size := by omega)); (try (have : w.heap.size + 1 + 1 < w5.heap.size := by omega)); (try (have : w.heap.size + 1 + 1 + 1 < w5.heap.size := by omega)); have HO5 := Lib.hid (ownsRow_below (ownsRow_below hO.out (show Below wr.heap.size wr (wr.alloc _) from by repeat' (first | (with_reducible exact Below.refl _ _) | (with_reducible assumption) | (with_reducible refine Below.alloc ?_ ?_ _) | (with_reducible refine Below.drew ?_) | (with_reducible refine Below.setCell ?_ ?_ _) | (with_reducible refine Below.stepB (by assumption) ?_ ?_) | go_size))) hbw5))
          go_roundw
          case rel => exact ⟨i + 1, r, b3, c3, by omega, by go_num, rfl, by omega, by rw [HU2.out]; exact hR, by rw [HU2.out]; exact HO5, by repeat' (first | (with_reducible exact Below.refl _ _) | (with_reducible assumption) | (with_reducible refine Below.alloc ?_ ?_ _) | (with_reducible refine Below.drew ?_) | (with_reducible refine Below.setCell ?_ ?_ _) | (with_reducible refine Below.stepB (by assumption) ?_ ?_) | go_size)⟩
          case measure => simp [intOf]; omega
      · obtain rfl : i = M := by omega
        have HX := Lib.hid (own_ints hR.out hO.out)
        have hz2 : w.heap.size ≤ w1.heap.size := by omega
        have HB1o := HB1.out
        go_wp2
        go_ret2
        exact VOut.row (Own.more HX.out hz2) (by rw [cntN_t HG.out, Int.toNat_natCast]; exact hR.out.symm) HG.out (by repeat' (first | (with_reducible exact Below.refl _ _) | (with_reducible assumption) | (with_reducible refine Below.alloc ?_ ?_ _) | (with_reducible refine Below.drew ?_) | (with_reducible refine Below.setCell ?_ ?_ _) | (with_reducible refine Below.stepB (by assumption) ?_ ?_) | go_size))
end Go.Proofs.Ytbgpmbaonjehbaa
