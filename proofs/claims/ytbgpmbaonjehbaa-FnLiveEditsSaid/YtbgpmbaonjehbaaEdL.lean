/- Contracts: the reasons of the live steps of a sounding: the program's and the reference's. -/
import Derived.Test.YtbgpmbaonjehbaaEdJ
import Derived.Test.YtbgpmbaonjehbaaEdK
namespace Go.Proofs.Ytbgpmbaonjehbaa
open Go.RowKit
def textX (R : List (List UInt8)) : List Value := R.map (fun s => Value.string ⟨s.toArray⟩)
theorem textX_snoc (R : List (List UInt8)) (s : List UInt8) : textX R ++ [Value.string ⟨s.toArray⟩] = textX (R ++ [s]) := by simp [textX]
theorem own_text {w : World} {base : Nat} {e : TypeId} {A : Option Addr} {n c : Nat} {R : List (List UInt8)} (hn : n = R.length) (h : w.ownsRow base e 1 (.slice A n c) n (textX R)) : Own w base 1 A n (fun i _ => .string ⟨(R.getD i []).toArray⟩) :=
  ownsRow_own h fun i j hi hj => by
    obtain rfl : j = 0 := by omega
    subst hn
    simp [textX, List.getD, hi]
theorem str_info : (Try.prog.info? 9).map (fun i => (i.zero, i.size, i.bytes)) = some (some (.string ⟨#[]⟩), 1, 16) := by kernel_rfl
theorem reaL_hit {f : Nat → ES} {T : List Nat} {j : Nat} {mark : Int} (h : (f j).mark = mark) : reaL f (T ++ [j]) mark = reaL f T mark ++ [(f j).reason] := by simp [reaL, h]
theorem reaL_miss {f : Nat → ES} {T : List Nat} {j : Nat} {mark : Int} (h : (f j).mark ≠ mark) : reaL f (T ++ [j]) mark = reaL f T mark := by simp [reaL, h]
theorem reaL_len {f : Nat → ES} {T : List Nat} {mark : Int} : (reaL f T mark).length ≤ T.length := by
  unfold reaL
  rw [List.length_map]
  exact List.length_filter_le _ _
/-- what is asked of a sounding of an edit list -/
def reaOk (marks : Int) (f : Nat → ES) (n : Nat) (mark : Int) : Bool := goodEd marks f n && inB mark 0 (marks - 1)
def reaV (f : Nat → ES) (n : Nat) (mark : Int) (i : Nat) : Value := .string ⟨((reaL f (liveN f n) mark).getD i []).toArray⟩
set_option maxRecDepth 100000 in
set_option maxHeartbeats 2000000 in
theorem ReasonsFor_any (marks : Int) (A : Option Addr) (n c : Nat) (f : Nat → ES) (mark : Int) (w : World) (hS : SlES w A n f) (hn : n ≤ 1000) : Calls Try.prog 29 #[.int .i64 marks, .slice A n c, .int .i64 mark] w
    fun e w' => VOut w (cntN (reaOk marks f n mark) (reaL f (liveN f n) mark).length) (reaV f n mark) (reaOk marks f n mark) e w' := by
  have HE := Lib.hid (fun W (hb : Below w.heap.size w W) => edited_any marks A n c f W (hS.below hb) hn)
  have HS := Lib.hid hS
  clear hS
  go_enter Try.func29, Try.ntmps29
  go_wp2_with fail
  refine (HE.out _ (by repeat' (first | (with_reducible exact Below.refl _ _) | (with_reducible assumption) | (with_reducible refine Below.alloc ?_ ?_ _) | (with_reducible refine Below.drew ?_) | (with_reducible refine Below.setCell ?_ ?_ _) | (with_reducible refine Below.stepB (by assumption) ?_ ?_) | go_size))).mono ?_
  clear HE
  rintro e w1 (⟨hg, rfl, hb1⟩ | ⟨hg, M, q, R, S, V, m, cV, rfl, rfl, hst, hb1⟩)
  · have HG : Hid (reaOk marks f n mark = false) := by show _ = _; rw [reaOk, hg]; rfl
    clear hg
    go_wp2
    go_ret2
    exact VOut.none (cntN_f HG.out) HG.out (by repeat' (first | (with_reducible exact Below.refl _ _) | (with_reducible assumption) | (with_reducible refine Below.alloc ?_ ?_ _) | (with_reducible refine Below.drew ?_) | (with_reducible refine Below.setCell ?_ ?_ _) | (with_reducible refine Below.stepB (by assumption) ?_ ?_) | go_size))
  · obtain ⟨⟨hM1, hM15⟩, hn20, -⟩ := goodEd_bd hg
    have hin := fun W => inside_any mark 0 ((M : Int) - 1) W
    rcases Bool.eq_false_or_eq_true (inB mark 0 ((M : Int) - 1)) with hq | hq <;> rw [hq] at hin <;> have HIN := Lib.hid hin <;> clear hin
    rotate_left
    · have HG : Hid (reaOk M f n mark = false) := by show _ = _; rw [reaOk, hq, Bool.and_false]
      clear hg hst hq
      go_wp2_with (go_at_call 44; with_reducible refine (HIN.out _).mono ?_; rintro e w' ⟨rfl, rfl⟩)
      go_ret2
      exact VOut.none (cntN_f HG.out) HG.out (by repeat' (first | (with_reducible exact Below.refl _ _) | (with_reducible assumption) | (with_reducible refine Below.alloc ?_ ?_ _) | (with_reducible refine Below.drew ?_) | (with_reducible refine Below.setCell ?_ ?_ _) | (with_reducible refine Below.stepB (by assumption) ?_ ?_) | go_size))
    have HG : Hid (reaOk M f n mark = true) := by show _ = _; rw [reaOk, hq, hg]; rfl
    have hql := hst.blk.lt
    have x2 : w1.cell? ⟨q, 2, none⟩ = some (.slice (some ⟨V, 0, none⟩) m cV) := hst.blk.cell 2
    have HV := Lib.hid (own_nat hst.len hst.liv)
    have HM := Lib.hid hst.len
    have hmn : m ≤ n := by have := hst.len; have := liveN_len f n; omega
    have HJ : Hid (∀ i, i < m → (liveN f n).getD i 0 < n) := fun i hi => (liveN_mem (cln_get (by rw [← hst.len]; exact hi))).1
    obtain ⟨q0, hq0, hy0, hy1, hy2⟩ := info_parts str_info
    have hO0 := Lib.hid (ownsRow_empty w1 9 1)
    clear hg hst hq
    obtain ⟨L, hL⟩ : ∃ L, L = liveN f n := ⟨_, rfl⟩
    rw [← hL] at HV HM HJ
    have HLE := Lib.hid hL
    clear hL
    go_wp2_with (go_at_call 44; with_reducible refine (HIN.out _).mono ?_; rintro e w' ⟨rfl, rfl⟩)
    go_loopw [10, 34] (fun v10 v34 wr => ∃ i r b3 c3 : Nat, i ≤ m ∧ v34 = .int .i64 i ∧ v10 = .slice (some ⟨b3, 0, none⟩) r c3 ∧ r ≤ i ∧ Hid (r = (reaL f (L.take i) mark).length) ∧ Hid (wr.ownsRow w1.heap.size 9 1 (.slice (some ⟨b3, 0, none⟩) r c3) r (textX (reaL f (L.take i) mark))) ∧ Below w1.heap.size w1 wr) (fun _ v34 _ => m - (intOf v34).toNat)
    case atStart => exact ⟨0, 0, _, _, Nat.zero_le _, rfl, rfl, Nat.zero_le _, by rw [List.take_zero]; rfl, by rw [List.take_zero]; exact hO0.out, by repeat' (first | (with_reducible exact Below.refl _ _) | (with_reducible assumption) | (with_reducible refine Below.alloc ?_ ?_ _) | (with_reducible refine Below.drew ?_) | (with_reducible refine Below.setCell ?_ ?_ _) | (with_reducible refine Below.stepB (by assumption) ?_ ?_) | go_size)⟩
    case round =>
      clear hO0
      obtain ⟨i, r, b3, c3, hi, rfl, rfl, hri, hR, hO, hbr⟩ := hrel
      have hzr := hbr.size
      have hz1 := hb1.size
      by_cases hlt : i < m
      · obtain ⟨hb5, hb6, d0⟩ := OwnI.at HV.out hbr hlt
        have hj : natV L i = ((L.getD i 0 : Nat) : Int) := rfl
        rw [hj] at d0
        have hjn := HJ.out i hlt
        have HTK := Lib.hid (take_snoc (show i < L.length by rw [← HM.out]; exact hlt))
        generalize L.getD i 0 = j5 at d0 hjn HTK
        clear hj
        obtain ⟨b, off, rfl, hbl, hbl2, y0, y1, y2, y3⟩ := HS.out.at (hb1.trans (hbr.mono hz1)) hjn
        by_cases hmk : (f j5).mark = mark
        · have g1 : ((f j5).mark == mark) = true := beq_iff_eq.2 hmk
          have HE : Hid (reaL f (L.take (i + 1)) mark = reaL f (L.take i) mark ++ [(f j5).reason]) := by
            show _ = _
            rw [HTK.out, reaL_hit hmk]
          clear hmk
          go_wp2_with (at_builtin; refine wpList_append_rowK _ rfl _ _ 46 rfl w1.heap.size 9 q0 _ 1 16 Try.underlying46 hq0 hy0 hy1 hy2 rfl (by decide) (.slice (some ⟨b3, 0, none⟩) r c3) r (textX (reaL f (L.take i) mark)) rfl (ownsRow_below hO.out (show Below wr.heap.size wr _ from by repeat' (first | (with_reducible exact Below.refl _ _) | (with_reducible assumption) | (with_reducible refine Below.alloc ?_ ?_ _) | (with_reducible refine Below.drew ?_) | (with_reducible refine Below.setCell ?_ ?_ _) | (with_reducible refine Below.stepB (by assumption) ?_ ?_) | go_size))) (by simp) _ 0 1 1 (fun _ _ => .string ⟨(f j5).reason.toArray⟩) rfl ?_ (fun _ _ => rfl) (by omega) (by decide) ?_ ?_; go_must (focus exact one_box (blk_new1 _ (by simp))); go_must (focus (first | omega | (simp; omega) | (simp; done))); intro b9 c9 w9 hO9 hc9 hb9 hbw9 hk9; have hz9 := hbw9.size; (try simp at hz9); clear hk9)
          go_roundw
          case rel =>
            refine ⟨i + 1, r + 1, b9, c9, by omega, by go_num, rfl, by omega, ?_, ?_, by repeat' (first | (with_reducible exact Below.refl _ _) | (with_reducible assumption) | (with_reducible refine Below.alloc ?_ ?_ _) | (with_reducible refine Below.drew ?_) | (with_reducible refine Below.setCell ?_ ?_ _) | (with_reducible refine Below.stepB (by assumption) ?_ ?_) | go_size)⟩
            · show _ = _
              rw [HE.out, List.length_append, ← hR.out]
              rfl
            · show World.ownsRow _ _ _ _ _ _ _
              rw [HE.out, ← textX_snoc]
              exact hO9
          case measure => simp [intOf]; omega
        · have g1 : ((f j5).mark == mark) = false := beq_eq_false_iff_ne.2 hmk
          have HE : Hid (reaL f (L.take (i + 1)) mark = reaL f (L.take i) mark) := by
            show _ = _
            rw [HTK.out, reaL_miss hmk]
          clear hmk
          go_wp2
          go_roundw
          case rel => exact ⟨i + 1, r, b3, c3, by omega, by go_num, rfl, by omega, by rw [HE.out]; exact hR, by rw [HE.out]; exact hO, by repeat' (first | (with_reducible exact Below.refl _ _) | (with_reducible assumption) | (with_reducible refine Below.alloc ?_ ?_ _) | (with_reducible refine Below.drew ?_) | (with_reducible refine Below.setCell ?_ ?_ _) | (with_reducible refine Below.stepB (by assumption) ?_ ?_) | go_size)⟩
          case measure => simp [intOf]; omega
      · obtain rfl : i = m := by omega
        have h0 : L.take i = liveN f n := by rw [HM.out, List.take_length, HLE.out]
        have h1 := hO.out
        have h2 := hR.out
        rw [h0] at h1 h2
        have HX := Lib.hid (And.intro h1 h2)
        clear h0 h1 h2 hO hR
        go_wp2
        go_ret2
        exact VOut.row (Own.more (own_text HX.out.2 HX.out.1) hz1) (by rw [cntN_t HG.out]; exact HX.out.2.symm) HG.out (by repeat' (first | (with_reducible exact Below.refl _ _) | (with_reducible assumption) | (with_reducible refine Below.alloc ?_ ?_ _) | (with_reducible refine Below.drew ?_) | (with_reducible refine Below.setCell ?_ ?_ _) | (with_reducible refine Below.stepB (by assumption) ?_ ?_) | go_size))
end Go.Proofs.Ytbgpmbaonjehbaa
