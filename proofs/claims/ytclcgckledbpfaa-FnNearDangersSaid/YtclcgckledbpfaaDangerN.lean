/- Contracts: the dangers within a distance, the nearest first: the program's. -/
import Derived.Test.YtclcgckledbpfaaDangerM
namespace Go.Proofs.Ytclcgckledbpfaa
open Go.RowKit
theorem blk_newN {g : Nat} (w : World) (t : TypeId) (cs : Array Value) (hg : g = w.heap.size) : Blk (w.alloc (.cells cs t)) g t cs := by
  subst hg
  exact Blk.new w t cs
theorem dg_at0 {w : World} {g : Nat} {t : TypeId} {s : DG} (h : Blk w g t s.arr) (i j : Nat) (hi : i < 1) (hj : j < 7) : w.cell? ⟨g, 0 + i * 7 + j, none⟩ = some (s.cell j) := by
  obtain rfl : i = 0 := by omega
  rw [h.cell]
  have : j = 0 ∨ j = 1 ∨ j = 2 ∨ j = 3 ∨ j = 4 ∨ j = 5 ∨ j = 6 := by omega
  rcases this with rfl | rfl | rfl | rfl | rfl | rfl | rfl <;> rfl
theorem owns_dgs {w : World} {base : Nat} {e : TypeId} {A : Option Addr} {c : Nat} {L : List DG} {z : DG} (h : w.ownsRow base e 7 (.slice A (L.length + 1) c) (L.length + 1) (dgCells L ++ flatG 7 (fun _ j => z.cell j) 1)) :
    w.ownsRow base e 7 (.slice A (L ++ [z]).length c) (L ++ [z]).length (dgCells (L ++ [z])) := by
  have h2 := owns_dg h
  rw [List.length_append, List.length_singleton] at h2 ⊢
  exact h2
/-- the Ids of the first k -/
def idsTo (S : List DG) (k : Nat) : List Int := pick (fun _ => true) (fun i => (S.getD i noDG).id) k
theorem idsTo_snoc (S : List DG) (k : Nat) : idsTo S (k + 1) = idsTo S k ++ [(S.getD k noDG).id] := pick_hit rfl
theorem idsTo_len (S : List DG) (k : Nat) : (idsTo S k).length ≤ k := pick_len k
theorem idsTo_all (S : List DG) : idsTo S S.length = S.map DG.id := by
  have key : ∀ k, k ≤ S.length → idsTo S k = (S.take k).map DG.id := by
    intro k
    induction k with
    | zero => intro _; rfl
    | succ k ih =>
      intro hk
      rw [idsTo_snoc, ih (by omega), List.take_succ_eq_append_getElem (by omega), List.map_append]
      simp [List.getD, show k < S.length from by omega]
  rw [key _ (Nat.le_refl _), List.take_length]
theorem nearL_hit {f : Nat → DG} {x y far : Int} {k : Nat} (h : nearD f x y far k = true) : nearL f x y far (k + 1) = nearL f x y far k ++ [f k] := pick_hit h
theorem nearL_miss {f : Nat → DG} {x y far : Int} {k : Nat} (h : nearD f x y far k = false) : nearL f x y far (k + 1) = nearL f x y far k := pick_miss h
theorem nearL_ok {f : Nat → DG} {x y far : Int} {n : Nat} (hok : ∀ k, k < n → okD (f k) = true) : ∀ s, s ∈ nearL f x y far n → okD s = true := by
  have : ∀ k, k ≤ n → ∀ s, s ∈ nearL f x y far k → okD s = true := by
    intro k
    induction k with
    | zero => intro _ s hs; simp [nearL, pick] at hs
    | succ k ih =>
      intro hk s hs
      rcases Bool.eq_false_or_eq_true (nearD f x y far k) with h | h
      · rw [nearL_hit h, List.mem_append, List.mem_singleton] at hs
        rcases hs with hs | rfl
        · exact ih (by omega) s hs
        · exact hok k (by omega)
      · rw [nearL_miss h] at hs
        exact ih (by omega) s hs
  exact this n (Nat.le_refl _)
set_option maxRecDepth 100000 in
set_option maxHeartbeats 1000000 in
theorem Within_yes (A : Option Addr) (n c : Nat) (f : Nat → DG) (x y far : Int) (w : World) (hS : SlDG w A n f) (hn : n ≤ 1048576) (hg : goodDAll f n = true) (hp : spotB x y = true) (hf : inB far 0 2000 = true) :
    Calls Try.prog 43 #[.slice A n c, .agg #[.int .i64 x, .int .i64 y], .int .i64 far] w fun e w' => IntsOut w ((nearS f x y far n).map DG.id) true e w' := by
  obtain ⟨hgd, h10⟩ := goodDAll_iff.1 hg
  have hok := Lib.hid (goodD_lt hgd)
  have hA := fun W (hb : Below w.heap.size w W) => AreDangers_any A n c f W (hS.below hb) hn
  rw [hg] at hA
  have HA := Lib.hid hA
  have hP := fun W => IsSpot_any x y W
  rw [hp] at hP
  have HP := Lib.hid hP
  have HSQ := Lib.hid (fun k (hk : k < n) W => squareOf_any (f k).x (f k).y x y W (okD_spot (hok.out k hk)) hp)
  obtain ⟨q1, q2⟩ := far_bd hf
  obtain ⟨i0, hi0, hz0, hz1, hz2⟩ := info_parts info_Danger
  obtain ⟨j0, hj0, hy0, hy1, hy2⟩ := info_parts int_info
  have HS := Lib.hid hS
  have hll := Lib.hid (fun k (hk : k ≤ n) => show (nearL f x y far k).length ≤ k from pick_len k)
  have hmemok := Lib.hid (nearL_ok (f := f) (x := x) (y := y) (far := far) hok.out)
  clear hA hS hg hgd hP
  go_enter Try.func43, Try.ntmps43
  go_wp2_with fail
  refine (HA.out _ (by repeat' (first | (with_reducible exact Below.refl _ _) | (with_reducible assumption) | (with_reducible refine Below.alloc ?_ ?_ _) | (with_reducible refine Below.drew ?_) | (with_reducible refine Below.setCell ?_ ?_ _) | (with_reducible refine Below.stepB (by assumption) ?_ ?_) | go_size))).mono ?_
  rintro e w1 ⟨rfl, hbw1⟩
  obtain ⟨hzw1, hcw1, hfw1⟩ := bfacts hbw1; (try simp at hzw1 hcw1 hfw1); (try (have : w.heap.size < w1.heap.size := by omega)); (try (have : w.heap.size + 1 < w1.heap.size := by omega)); (try (have : w.heap.size + 1 + 1 < w1.heap.size := by omega)); (try (have : w.heap.size + 1 + 1 + 1 < w1.heap.size := by omega))
  have l01 : w.heap.size < w1.heap.size := by omega
  go_wp2_with fail
  refine (HP.out _).mono ?_
  rintro e w2 ⟨rfl, hbw2⟩
  obtain ⟨hzw2, hcw2, hfw2⟩ := bfacts hbw2; (try simp at hzw2 hcw2 hfw2); (try (have : w.heap.size < w2.heap.size := by omega)); (try (have : w.heap.size + 1 < w2.heap.size := by omega)); (try (have : w.heap.size + 1 + 1 < w2.heap.size := by omega)); (try (have : w.heap.size + 1 + 1 + 1 < w2.heap.size := by omega))
  go_wp2_with (go_at_call 70; refine (isFar_any _ _).mono ?_; rintro e w' ⟨rfl, rfl⟩)
  have hO0 := Lib.hid (ownsRow_empty w2 29 7)
  have hBx : Hid (Blk w2 w.heap.size 27 #[.int .i64 x, .int .i64 y]) := Blk.below (B := w.heap.size + 1) (blk_newN w _ _ rfl) (by repeat' (first | (with_reducible exact Below.refl _ _) | (with_reducible assumption) | (with_reducible refine Below.alloc ?_ ?_ _) | (with_reducible refine Below.drew ?_) | (with_reducible refine Below.setCell ?_ ?_ _) | (with_reducible refine Below.stepB (by assumption) ?_ ?_) | go_size)) (by omega)
  have hBW : Hid (Below w.heap.size w w2) := Lib.hid (by repeat' (first | (with_reducible exact Below.refl _ _) | (with_reducible assumption) | (with_reducible refine Below.alloc ?_ ?_ _) | (with_reducible refine Below.drew ?_) | (with_reducible refine Below.setCell ?_ ?_ _) | (with_reducible refine Below.stepB (by assumption) ?_ ?_) | go_size))
  clear hcw1 hfw1 hcw2 hfw2 hbw1 hbw2
  go_loopw [8, 30] (fun v8 v30 wr => ∃ (k b8 c8 : Nat), k ≤ n ∧ v30 = .int .i64 k ∧ v8 = .slice (some ⟨b8, 0, none⟩) (nearL f x y far k).length c8 ∧ Hid (wr.ownsRow w2.heap.size 29 7 (.slice (some ⟨b8, 0, none⟩) (nearL f x y far k).length c8) (nearL f x y far k).length (dgCells (nearL f x y far k))) ∧ Below w2.heap.size w2 wr) (fun _ v30 _ => n - (intOf v30).toNat)
  case atStart => exact ⟨0, _, _, Nat.zero_le _, rfl, rfl, hO0.out, by repeat' (first | (with_reducible exact Below.refl _ _) | (with_reducible assumption) | (with_reducible refine Below.alloc ?_ ?_ _) | (with_reducible refine Below.drew ?_) | (with_reducible refine Below.setCell ?_ ?_ _) | (with_reducible refine Below.stepB (by assumption) ?_ ?_) | go_size)⟩
  case round =>
    clear hO0
    obtain ⟨k, b8, c8, hk, rfl, rfl, hO, hbr⟩ := hrel
    have hzr := hbr.size
    have hll2 := hll.out k hk
    have hBr := Lib.hid (Blk.below hBx.out hbr (by omega))
    have x0 : wr.cell? ⟨w.heap.size, 0, none⟩ = some (.int .i64 x) := hBr.out.cell 0
    have x1 : wr.cell? ⟨w.heap.size, 1, none⟩ = some (.int .i64 y) := hBr.out.cell 1
    have lwr : w.heap.size < wr.heap.size := by omega
    by_cases hlt : k < n
    · obtain ⟨b, off, rfl, hbl, hbl2, c0, c1, c2, c3, c4, c5, c6, -⟩ := HS.out.at (hBW.out.trans (hbr.mono (by omega))) hlt
      go_wp2_with fail
      refine (HSQ.out k hlt _).mono ?_
      rintro e w3 ⟨rfl, hbw3⟩
      obtain ⟨hzw3, hcw3, hfw3⟩ := bfacts hbw3; (try simp at hzw3 hcw3 hfw3); (try (have : w.heap.size < w3.heap.size := by omega)); (try (have : w.heap.size + 1 < w3.heap.size := by omega)); (try (have : w.heap.size + 1 + 1 < w3.heap.size := by omega)); (try (have : w.heap.size + 1 + 1 + 1 < w3.heap.size := by omega))
      have lr3 : wr.heap.size < w3.heap.size := by omega
      by_cases hq : sqD (f k).x (f k).y x y ≤ far * far
      · have HE := Lib.hid (nearL_hit (f := f) (x := x) (y := y) (far := far) (k := k) (by simp [nearD, hq]))
        go_wp2_with (at_builtin; refine wpList_append_rowG _ rfl _ _ 37 rfl w2.heap.size 29 i0 _ 7 56 Try.underlying37 hi0 hz0 hz1 hz2 rfl (by decide) _ (nearL f x y far k).length (dgCells (nearL f x y far k)) rfl ?_ w3.heap.size 0 1 1 (fun _ j => (f k).cell j) rfl ?_ (fun _ j => cell_one (f k) j) (by omega) (by decide) ?_ ?_; go_must (focus exact (ownsRow_below (ownsRow_below (hO.out.alloc _) hbw3) (Below.alloc (Below.refl _ _) (Nat.le_refl _) _))); go_must (focus exact dg_at0 (s := f k) (blk_newN w3 _ _ rfl)); go_must (focus (simp; omega)); intro v9 w4 hO4 hbw4; have hz4 := hbw4.size; (try simp at hz4))
        obtain ⟨A9, c9, rfl⟩ := ownsRow_form hO4
        have hO5 := owns_dgs hO4
        obtain ⟨b9, rfl⟩ := (ownDG_of rfl hO5).form (by simp)
        go_roundw
        case rel => exact ⟨k + 1, b9, c9, by omega, by go_num, by rw [HE.out, List.length_append]; rfl, by rw [HE.out]; exact hO5, by repeat' (first | (with_reducible exact Below.refl _ _) | (with_reducible assumption) | (with_reducible refine Below.alloc ?_ ?_ _) | (with_reducible refine Below.drew ?_) | (with_reducible refine Below.setCell ?_ ?_ _) | (with_reducible refine Below.stepB (by assumption) ?_ ?_) | go_size)⟩
        case measure => simp [intOf]; omega
      · have HE := Lib.hid (nearL_miss (f := f) (x := x) (y := y) (far := far) (k := k) (by simp [nearD, hq]))
        go_wp2
        go_roundw
        case rel => exact ⟨k + 1, b8, c8, by omega, by go_num, by rw [HE.out], by rw [HE.out]; exact ownsRow_below (ownsRow_below (hO.out.alloc _) hbw3) (Below.refl _ _), by repeat' (first | (with_reducible exact Below.refl _ _) | (with_reducible assumption) | (with_reducible refine Below.alloc ?_ ?_ _) | (with_reducible refine Below.drew ?_) | (with_reducible refine Below.setCell ?_ ?_ _) | (with_reducible refine Below.stepB (by assumption) ?_ ?_) | go_size)⟩
        case measure => simp [intOf]; omega
    · obtain rfl : k = n := by omega
      have hOwn := ownDG_of rfl hO.out
      have hsrt := sortDG_any b8 (nearL f x y far k).length c8 w2.heap.size (fun i => (nearL f x y far k).getD i noDG) (fun s => okD s = true) (cfN x y) 74 #[.pointer (some ⟨w.heap.size, 0, none⟩)] wr hOwn (by omega)
        (fun i hi => hmemok.out _ (by simp only [List.getD, List.getElem?_eq_getElem hi]; exact List.getElem_mem hi)) enters_within
        (fun a b W ha hb hK => by
          have hk : Blk W w.heap.size 27 #[.int .i64 x, .int .i64 y] := (hK.block _ hBr.out.lt (fun h0 ad had => by
            have := (hOwn.range h0 ad had).1
            omega)).trans hBr.out
          exact within_cmp x y a b _ W hk.lt (hk.cell 0) (hk.cell 1) ha hb hp)
      rw [ltN_cf] at hsrt
      have HSRT := Lib.hid hsrt
      have HRG := Lib.hid hOwn.range
      clear hsrt hOwn x0 x1
      go_wp2_with fail
      refine HSRT.out.mono ?_
      rintro e w5 ⟨rfl, hO5, hk5⟩
      have hzw5 := hk5.size
      have hb5 : Below w2.heap.size wr w5 := hk5.below HRG.out (Nat.le_refl _) hzr
      have hlenS : (nearS f x y far k).length = (nearL f x y far k).length := srtL_len _ _
      have hO6 : Own w5 w2.heap.size 7 (some ⟨b8, 0, none⟩) (nearL f x y far k).length (fun i j => ((nearS f x y far k).getD i noDG).cell j) := Own.congr hO5 (fun i j hi _ => by
        have : (nearS f x y far k).getD i noDG = insO (ltN x y) (fun i => (nearL f x y far k).getD i noDG) (nearL f x y far k).length i := toL_getD _ _ hi
        rw [this])
      have HO6 := Lib.hid hO6
      have HLS := Lib.hid hlenS
      clear hO5 hO6 hk5 hlenS
      obtain ⟨S, hSE⟩ : ∃ S, nearS f x y far k = S := ⟨_, rfl⟩
      rw [hSE] at HO6 HLS
      have HSE := Lib.hid hSE
      clear hSE
      have hSl : SlDG w5 (some ⟨b8, 0, none⟩) (nearL f x y far k).length (fun i => S.getD i noDG) := HO6.out.sl
      have HSL := Lib.hid hSl
      clear hSl
      obtain ⟨m, hm⟩ : ∃ m, (nearL f x y far k).length = m := ⟨_, rfl⟩
      rw [hm] at HSL hll2
      have hHM : Hid (S.length = m) := by show _ = _; rw [HLS.out, hm]
      have hS5 : Hid (Below w.heap.size w w5) := (hBW.out.trans (hbr.mono (by omega))).trans (hb5.mono (by omega))
      clear hbr hb5 HO6 HLS HSRT
      go_wp2
      have hO0 := Lib.hid (ownsRow_empty w5 3 1)
      go_loopw [11, 53] (fun v11 v53 wq => ∃ j : Nat, j ≤ m ∧ v53 = .int .i64 j ∧ wq.ownsRow w5.heap.size 3 1 v11 (idsTo S j).length ((idsTo S j).map (Value.int .i64)) ∧ Below w5.heap.size w5 wq) (fun _ v53 _ => m - (intOf v53).toNat)
      case atStart => exact ⟨0, Nat.zero_le _, rfl, hO0.out, by repeat' (first | (with_reducible exact Below.refl _ _) | (with_reducible assumption) | (with_reducible refine Below.alloc ?_ ?_ _) | (with_reducible refine Below.drew ?_) | (with_reducible refine Below.setCell ?_ ?_ _) | (with_reducible refine Below.stepB (by assumption) ?_ ?_) | go_size)⟩
      case round =>
        rename World => wq
        clear hO0
        obtain ⟨j, hj, rfl, hQ, hbq⟩ := hrel
        have hzq := hbq.size
        obtain ⟨A11, c11, rfl⟩ := ownsRow_form hQ
        by_cases hjl : j < m
        · obtain ⟨b, off, hbo, _, hbl2, c0, c1, c2, c3, c4, c5, c6, -⟩ := HSL.out.at hbq hjl
          obtain ⟨rfl, rfl⟩ : b8 = b ∧ 0 = off := by simpa using hbo
          simp only [Nat.zero_add] at c0 c1 c2 c3 c4 c5 c6
          have HQ := Lib.hid hQ
          have hlen := idsTo_len S j
          clear hbo hQ
          go_wp2_with (at_builtin; refine wpList_append_int1 _ rfl _ _ 43 rfl w5.heap.size 3 j0 Try.underlying43 hj0 hy0 hy1 hy2 _ _ _ rfl ((HQ.out.alloc _).alloc _) _ _ ((S.getD j noDG).id) rfl ?_ ?_ ?_ ?_; go_must (focus (simp; done)); go_must (focus omega); go_must (focus (simp; omega)); intro v9 w9 hO9 hb9; have hz9 := hb9.size; (try simp at hz9))
          go_roundw
          case rel => exact ⟨j + 1, by omega, by go_num, by rw [idsTo_snoc]; exact owns_snoc hO9, by repeat' (first | (with_reducible exact Below.refl _ _) | (with_reducible assumption) | (with_reducible refine Below.alloc ?_ ?_ _) | (with_reducible refine Below.drew ?_) | (with_reducible refine Below.setCell ?_ ?_ _) | (with_reducible refine Below.stepB (by assumption) ?_ ?_) | go_size)⟩
          case measure => simp [intOf]; omega
        · obtain rfl : j = m := by omega
          have HE : Hid (idsTo S j = S.map DG.id) := by show _ = _; rw [← idsTo_all, hHM.out]
          have HQ := Lib.hid hQ
          clear hQ
          go_wp2
          go_ret2
          exact IntsOut.row HQ.out (by rw [HSE.out, HE.out]) rfl (by omega) (hS5.out.trans (hbq.mono (by omega)))
end Go.Proofs.Ytclcgckledbpfaa
