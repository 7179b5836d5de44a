/- Contracts: the program's and the reference's functions on an edit list that answer for each sounding: accepted, shifted, rejected, live. -/
import Derived.Test.YtbgpmbaonjehbaaEdG
namespace Go.Proofs.Ytbgpmbaonjehbaa
open Go.RowKit
/-- so many if it holds, else none -/
def cntN (ok : Bool) (m : Nat) : Nat := if ok = true then m else 0
theorem cntN_t {ok : Bool} {m : Nat} (h : ok = true) : cntN ok m = m := if_pos h
theorem cntN_f {ok : Bool} {m : Nat} (h : ok = false) : cntN ok m = 0 := if_neg (by rw [h]; decide)
theorem cntN_le (ok : Bool) (m : Nat) : cntN ok m ≤ m := by unfold cntN; split <;> omega
/-- a row of one's own and a yes or no -/
def VOut (w : World) (n : Nat) (g : Nat → Value) (ok : Bool) (e : Ending) (w' : World) : Prop := ∃ A c, e = .returned (.tuple #[.slice A n c, .bool ok]) ∧ Own w' w.heap.size 1 A n (fun i _ => g i) ∧ Below w.heap.size w w'
theorem VOut.none {w w' : World} {n c : Nat} {A : Option Addr} {g : Nat → Value} {ok : Bool} (hn : n = 0) (hok : ok = false) (hb : Below w.heap.size w w') : VOut w n g ok (.returned (.tuple #[.slice A 0 c, .bool false])) w' := by
  subst hn hok
  exact ⟨A, c, rfl, fun h => absurd h (by simp), hb⟩
theorem VOut.row {w w' : World} {n m c : Nat} {A : Option Addr} {g : Nat → Value} {ok : Bool} (hO : Own w' w.heap.size 1 A m (fun i _ => g i)) (hn : n = m) (hok : ok = true) (hb : Below w.heap.size w w') : VOut w n g ok (.returned (.tuple #[.slice A m c, .bool true])) w' := by
  subst hn hok
  exact ⟨A, c, rfl, hO, hb⟩
def rangeX (h : Nat → Value) (i : Nat) : List Value := (List.range i).map h
theorem rangeX_snoc (h : Nat → Value) (i : Nat) : rangeX h i ++ [h i] = rangeX h (i + 1) := by simp [rangeX, List.range_succ]
theorem own_range {w : World} {base : Nat} {e : TypeId} {A : Option Addr} {n c : Nat} {h : Nat → Value} (hO : w.ownsRow base e 1 (.slice A n c) n (rangeX h n)) : Own w base 1 A n (fun i _ => h i) :=
  ownsRow_own hO fun i j hi hj => by
    obtain rfl : j = 0 := by omega
    simp [rangeX, hi]
theorem IsEditList_any (marks : Int) (A : Option Addr) (n c : Nat) (f : Nat → ES) (w : World) (hS : SlES w A n f) (hn : n ≤ 1000) : Calls Try.prog 17 #[.int .i64 marks, .slice A n c] w
    fun e w' => e = .returned (.bool (goodEd marks f n)) ∧ Below w.heap.size w w' := by
  have HE := Lib.hid (fun W (hb : Below w.heap.size w W) => edited_any marks A n c f W (hS.below hb) hn)
  have HS := Lib.hid hS
  clear hS
  go_enter Try.func17, Try.ntmps17
  go_wp2_with fail
  refine (HE.out _ (by repeat' (first | (with_reducible exact Below.refl _ _) | (with_reducible assumption) | (with_reducible refine Below.alloc ?_ ?_ _) | (with_reducible refine Below.drew ?_) | (with_reducible refine Below.setCell ?_ ?_ _) | (with_reducible refine Below.stepB (by assumption) ?_ ?_) | go_size))).mono ?_
  clear HE
  rintro e w1 (⟨hg, rfl, hb1⟩ | ⟨hg, M, q, R, S, V, m, cV, rfl, rfl, hst, hb1⟩)
  · have HG := Lib.hid hg
    clear hg
    go_wp2
    go_ret
    exact ⟨ret_bool HG.out.symm, by repeat' (first | (with_reducible exact Below.refl _ _) | (with_reducible assumption) | (with_reducible refine Below.alloc ?_ ?_ _) | (with_reducible refine Below.drew ?_) | (with_reducible refine Below.setCell ?_ ?_ _) | (with_reducible refine Below.stepB (by assumption) ?_ ?_) | go_size)⟩
  · have HG := Lib.hid hg
    clear hg hst
    go_wp2
    go_ret
    exact ⟨ret_bool HG.out.symm, by repeat' (first | (with_reducible exact Below.refl _ _) | (with_reducible assumption) | (with_reducible refine Below.alloc ?_ ?_ _) | (with_reducible refine Below.drew ?_) | (with_reducible refine Below.setCell ?_ ?_ _) | (with_reducible refine Below.stepB (by assumption) ?_ ?_) | go_size)⟩
theorem ShiftsAfter_any (marks : Int) (A : Option Addr) (n c : Nat) (f : Nat → ES) (w : World) (hS : SlES w A n f) (hn : n ≤ 1000) : Calls Try.prog 11 #[.int .i64 marks, .slice A n c] w
    fun e w' => VOut w (cntN (goodEd marks f n) marks.toNat) (fun i => .int .i64 (shiftV f (liveN f n) i)) (goodEd marks f n) e w' := by
  have HE := Lib.hid (fun W (hb : Below w.heap.size w W) => edited_any marks A n c f W (hS.below hb) hn)
  have HS := Lib.hid hS
  clear hS
  go_enter Try.func11, Try.ntmps11
  go_wp2_with fail
  refine (HE.out _ (by repeat' (first | (with_reducible exact Below.refl _ _) | (with_reducible assumption) | (with_reducible refine Below.alloc ?_ ?_ _) | (with_reducible refine Below.drew ?_) | (with_reducible refine Below.setCell ?_ ?_ _) | (with_reducible refine Below.stepB (by assumption) ?_ ?_) | go_size))).mono ?_
  clear HE
  rintro e w1 (⟨hg, rfl, hb1⟩ | ⟨hg, M, q, R, S, V, m, cV, rfl, rfl, hst, hb1⟩)
  · have HG := Lib.hid hg
    clear hg
    go_wp2
    go_ret2
    exact VOut.none (cntN_f HG.out) HG.out (by repeat' (first | (with_reducible exact Below.refl _ _) | (with_reducible assumption) | (with_reducible refine Below.alloc ?_ ?_ _) | (with_reducible refine Below.drew ?_) | (with_reducible refine Below.setCell ?_ ?_ _) | (with_reducible refine Below.stepB (by assumption) ?_ ?_) | go_size))
  · have HG := Lib.hid hg
    have HST := Lib.hid hst
    have hql := hst.blk.lt
    have x1 : w1.cell? ⟨q, 1, none⟩ = some (.slice (some ⟨S, 0, none⟩) M M) := hst.blk.cell 1
    clear hg hst
    go_wp2
    go_ret2
    exact VOut.row HST.out.shf (by rw [cntN_t HG.out, Int.toNat_natCast]) HG.out (by repeat' (first | (with_reducible exact Below.refl _ _) | (with_reducible assumption) | (with_reducible refine Below.alloc ?_ ?_ _) | (with_reducible refine Below.drew ?_) | (with_reducible refine Below.setCell ?_ ?_ _) | (with_reducible refine Below.stepB (by assumption) ?_ ?_) | go_size))
theorem LiveSteps_any (marks : Int) (A : Option Addr) (n c : Nat) (f : Nat → ES) (w : World) (hS : SlES w A n f) (hn : n ≤ 1000) : Calls Try.prog 23 #[.int .i64 marks, .slice A n c] w
    fun e w' => VOut w (cntN (goodEd marks f n) (liveN f n).length) (fun i => .int .i64 (natV (liveN f n) i)) (goodEd marks f n) e w' := by
  have HE := Lib.hid (fun W (hb : Below w.heap.size w W) => edited_any marks A n c f W (hS.below hb) hn)
  have HS := Lib.hid hS
  clear hS
  go_enter Try.func23, Try.ntmps23
  go_wp2_with fail
  refine (HE.out _ (by repeat' (first | (with_reducible exact Below.refl _ _) | (with_reducible assumption) | (with_reducible refine Below.alloc ?_ ?_ _) | (with_reducible refine Below.drew ?_) | (with_reducible refine Below.setCell ?_ ?_ _) | (with_reducible refine Below.stepB (by assumption) ?_ ?_) | go_size))).mono ?_
  clear HE
  rintro e w1 (⟨hg, rfl, hb1⟩ | ⟨hg, M, q, R, S, V, m, cV, rfl, rfl, hst, hb1⟩)
  · have HG := Lib.hid hg
    clear hg
    go_wp2
    go_ret2
    exact VOut.none (cntN_f HG.out) HG.out (by repeat' (first | (with_reducible exact Below.refl _ _) | (with_reducible assumption) | (with_reducible refine Below.alloc ?_ ?_ _) | (with_reducible refine Below.drew ?_) | (with_reducible refine Below.setCell ?_ ?_ _) | (with_reducible refine Below.stepB (by assumption) ?_ ?_) | go_size))
  · have HG := Lib.hid hg
    have HST := Lib.hid hst
    have hql := hst.blk.lt
    have x2 : w1.cell? ⟨q, 2, none⟩ = some (.slice (some ⟨V, 0, none⟩) m cV) := hst.blk.cell 2
    clear hg hst
    go_wp2
    go_ret2
    exact VOut.row (own_nat HST.out.len HST.out.liv) (by rw [cntN_t HG.out]; exact HST.out.len.symm) HG.out (by repeat' (first | (with_reducible exact Below.refl _ _) | (with_reducible assumption) | (with_reducible refine Below.alloc ?_ ?_ _) | (with_reducible refine Below.drew ?_) | (with_reducible refine Below.setCell ?_ ?_ _) | (with_reducible refine Below.stepB (by assumption) ?_ ?_) | go_size))
set_option maxRecDepth 100000 in
set_option maxHeartbeats 1000000 in
theorem AcceptedAfter_any (marks : Int) (A : Option Addr) (n c : Nat) (f : Nat → ES) (w : World) (hS : SlES w A n f) (hn : n ≤ 1000) : Calls Try.prog 10 #[.int .i64 marks, .slice A n c] w
    fun e w' => VOut w (cntN (goodEd marks f n) marks.toNat) (fun i => .bool (accV f (liveN f n) i)) (goodEd marks f n) e w' := by
  have HE := Lib.hid (fun W (hb : Below w.heap.size w W) => edited_any marks A n c f W (hS.below hb) hn)
  have HS := Lib.hid hS
  clear hS
  go_enter Try.func10, Try.ntmps10
  go_wp2_with fail
  refine (HE.out _ (by repeat' (first | (with_reducible exact Below.refl _ _) | (with_reducible assumption) | (with_reducible refine Below.alloc ?_ ?_ _) | (with_reducible refine Below.drew ?_) | (with_reducible refine Below.setCell ?_ ?_ _) | (with_reducible refine Below.stepB (by assumption) ?_ ?_) | go_size))).mono ?_
  clear HE
  rintro e w1 (⟨hg, rfl, hb1⟩ | ⟨hg, M, q, R, S, V, m, cV, rfl, rfl, hst, hb1⟩)
  · have HG := Lib.hid hg
    clear hg
    go_wp2
    go_ret2
    exact VOut.none (cntN_f HG.out) HG.out (by repeat' (first | (with_reducible exact Below.refl _ _) | (with_reducible assumption) | (with_reducible refine Below.alloc ?_ ?_ _) | (with_reducible refine Below.drew ?_) | (with_reducible refine Below.setCell ?_ ?_ _) | (with_reducible refine Below.stepB (by assumption) ?_ ?_) | go_size))
  · have HG := Lib.hid hg
    have hM15 := (goodEd_bd hg).1.2
    have hql := hst.blk.lt
    have x0 : w1.cell? ⟨q, 0, none⟩ = some (.slice (some ⟨R, 0, none⟩) M M) := hst.blk.cell 0
    have HR := Lib.hid hst.rej
    obtain ⟨q0, hq0, hy0, hy1, hy2⟩ := info_parts bool_info
    have hO0 := Lib.hid (ownsRow_empty w1 4 1)
    clear hg hst
    go_wp2
    go_loopw [8, 25] (fun v8 v25 wr => ∃ i b3 c3 : Nat, i ≤ M ∧ v25 = .int .i64 i ∧ v8 = .slice (some ⟨b3, 0, none⟩) i c3 ∧ Hid (wr.ownsRow w1.heap.size 4 1 (.slice (some ⟨b3, 0, none⟩) i c3) i (rangeX (fun i => .bool (accV f (liveN f n) i)) i)) ∧ Below w1.heap.size w1 wr) (fun _ v25 _ => M - (intOf v25).toNat)
    case atStart => exact ⟨0, _, _, Nat.zero_le _, rfl, rfl, hO0.out, by repeat' (first | (with_reducible exact Below.refl _ _) | (with_reducible assumption) | (with_reducible refine Below.alloc ?_ ?_ _) | (with_reducible refine Below.drew ?_) | (with_reducible refine Below.setCell ?_ ?_ _) | (with_reducible refine Below.stepB (by assumption) ?_ ?_) | go_size)⟩
    case round =>
      clear hO0
      obtain ⟨i, b3, c3, hi, rfl, rfl, hO, hbr⟩ := hrel
      have hzr := hbr.size
      have hz1 := hb1.size
      by_cases hlt : i < M
      · have r0 := (HR.out.below hbr).at_ (i := i) (j := 0) hlt (by decide)
        obtain ⟨hRl, -⟩ := (HR.out.below hbr).free (by omega)
        simp only [Nat.mul_one, Nat.add_zero, rejV] at r0
        have HX := Lib.hid (rangeX_snoc (fun i => .bool (accV f (liveN f n) i)) i)
        generalize accV f (liveN f n) i = a at r0 HX
        go_wp2_with (at_builtin; refine wpList_append_rowS _ rfl _ _ 32 rfl w1.heap.size 4 q0 _ 1 1 Try.underlying32 hq0 hy0 hy1 hy2 rfl (by decide) (.slice (some ⟨b3, 0, none⟩) i c3) i ((rangeX (fun i => .bool (accV f (liveN f n) i)) i)) rfl ((ownsRow_below hO.out (show Below wr.heap.size wr _ from by repeat' (first | (with_reducible exact Below.refl _ _) | (with_reducible assumption) | (with_reducible refine Below.alloc ?_ ?_ _) | (with_reducible refine Below.drew ?_) | (with_reducible refine Below.setCell ?_ ?_ _) | (with_reducible refine Below.stepB (by assumption) ?_ ?_) | go_size)))) (by simp) _ 0 1 1 (fun _ _ => .bool a) rfl ?_ (fun _ _ => rfl) (by omega) (by decide) ?_ ?_; go_must (focus exact one_box (blk_new1 _ rfl)); go_must (focus (first | omega | (simp; omega) | (simp; done))); intro b9 c9 w9 hO9 hc9 hb9 hbw9; have hz9 := hbw9.size; (try simp at hz9))
        go_roundw
        case rel => exact ⟨i + 1, b9, c9, by omega, by go_num, rfl, by show World.ownsRow _ _ _ _ _ _ _; rw [← HX.out]; exact hO9, by repeat' (first | (with_reducible exact Below.refl _ _) | (with_reducible assumption) | (with_reducible refine Below.alloc ?_ ?_ _) | (with_reducible refine Below.drew ?_) | (with_reducible refine Below.setCell ?_ ?_ _) | (with_reducible refine Below.stepB (by assumption) ?_ ?_) | go_size)⟩
        case measure => simp [intOf]; omega
      · obtain rfl : i = M := by omega
        go_wp2
        go_ret2
        exact VOut.row (Own.more (own_range hO.out) hz1) (by rw [cntN_t HG.out, Int.toNat_natCast]) HG.out (by repeat' (first | (with_reducible exact Below.refl _ _) | (with_reducible assumption) | (with_reducible refine Below.alloc ?_ ?_ _) | (with_reducible refine Below.drew ?_) | (with_reducible refine Below.setCell ?_ ?_ _) | (with_reducible refine Below.stepB (by assumption) ?_ ?_) | go_size))
/-- how many of the first k soundings are rejected -/
def rejN (f : Nat → ES) (L : List Nat) : Nat → Nat
  | 0 => 0
  | k + 1 => if accV f L k = true then rejN f L k else rejN f L k + 1
theorem rejN_le (f : Nat → ES) (L : List Nat) : ∀ k, rejN f L k ≤ k
  | 0 => Nat.le_refl _
  | k + 1 => by
    have := rejN_le f L k
    unfold rejN
    split <;> omega
set_option maxRecDepth 100000 in
set_option maxHeartbeats 1000000 in
theorem RejectedCount_any (marks : Int) (A : Option Addr) (n c : Nat) (f : Nat → ES) (w : World) (hS : SlES w A n f) (hn : n ≤ 1000) : Calls Try.prog 27 #[.int .i64 marks, .slice A n c] w
    fun e w' => e = .returned (.tuple #[.int .i64 ((cntN (goodEd marks f n) (rejN f (liveN f n) marks.toNat) : Nat) : Int), .bool (goodEd marks f n)]) ∧ Below w.heap.size w w' := by
  have HE := Lib.hid (fun W (hb : Below w.heap.size w W) => edited_any marks A n c f W (hS.below hb) hn)
  have HS := Lib.hid hS
  clear hS
  go_enter Try.func27, Try.ntmps27
  go_wp2_with fail
  refine (HE.out _ (by repeat' (first | (with_reducible exact Below.refl _ _) | (with_reducible assumption) | (with_reducible refine Below.alloc ?_ ?_ _) | (with_reducible refine Below.drew ?_) | (with_reducible refine Below.setCell ?_ ?_ _) | (with_reducible refine Below.stepB (by assumption) ?_ ?_) | go_size))).mono ?_
  clear HE
  rintro e w1 (⟨hg, rfl, hb1⟩ | ⟨hg, M, q, R, S, V, m, cV, rfl, rfl, hst, hb1⟩)
  · have HG := Lib.hid hg
    clear hg
    go_wp2
    go_ret2
    exact ⟨by rw [cntN_f HG.out, HG.out]; rfl, by repeat' (first | (with_reducible exact Below.refl _ _) | (with_reducible assumption) | (with_reducible refine Below.alloc ?_ ?_ _) | (with_reducible refine Below.drew ?_) | (with_reducible refine Below.setCell ?_ ?_ _) | (with_reducible refine Below.stepB (by assumption) ?_ ?_) | go_size)⟩
  · have HG := Lib.hid hg
    have hM15 := (goodEd_bd hg).1.2
    have hql := hst.blk.lt
    have x0 : w1.cell? ⟨q, 0, none⟩ = some (.slice (some ⟨R, 0, none⟩) M M) := hst.blk.cell 0
    have HR := Lib.hid hst.rej
    clear hg hst
    go_wp2
    go_loopw [8, 24] (fun v8 v24 wr => ∃ i : Nat, i ≤ M ∧ v24 = .int .i64 i ∧ v8 = .int .i64 (rejN f (liveN f n) i : Nat) ∧ w1 = wr) (fun _ v24 _ => M - (intOf v24).toNat)
    case atStart => exact ⟨0, Nat.zero_le _, rfl, rfl, rfl⟩
    case round =>
      obtain ⟨i, hi, rfl, rfl, rfl⟩ := hrel
      by_cases hlt : i < M
      · have r0 := HR.out.at_ (i := i) (j := 0) hlt (by decide)
        obtain ⟨hRl, -⟩ := HR.out.free (by omega)
        simp only [Nat.mul_one, Nat.add_zero, rejV] at r0
        have hle := rejN_le f (liveN f n) i
        have HX : Hid (rejN f (liveN f n) (i + 1) = if accV f (liveN f n) i = true then rejN f (liveN f n) i else rejN f (liveN f n) i + 1) := rfl
        generalize rejN f (liveN f n) i = s at HX hle ⊢
        generalize accV f (liveN f n) i = a at r0 HX
        cases a
        · have HX2 : Hid (rejN f (liveN f n) (i + 1) = s + 1) := HX.out
          go_wp2
          go_roundw
          case rel => exact ⟨i + 1, by omega, by go_num, by rw [HX2.out]; simp, by trivial⟩
          case measure => simp [intOf]; omega
        · have HX2 : Hid (rejN f (liveN f n) (i + 1) = s) := HX.out
          go_wp2
          go_roundw
          case rel => exact ⟨i + 1, by omega, by go_num, by rw [HX2.out], by trivial⟩
          case measure => simp [intOf]; omega
      · obtain rfl : i = M := by omega
        go_wp2
        go_ret2
        exact ⟨by rw [cntN_t HG.out, HG.out, Int.toNat_natCast]; rfl, by repeat' (first | (with_reducible exact Below.refl _ _) | (with_reducible assumption) | (with_reducible refine Below.alloc ?_ ?_ _) | (with_reducible refine Below.drew ?_) | (with_reducible refine Below.setCell ?_ ?_ _) | (with_reducible refine Below.stepB (by assumption) ?_ ?_) | go_size)⟩
end Go.Proofs.Ytbgpmbaonjehbaa
