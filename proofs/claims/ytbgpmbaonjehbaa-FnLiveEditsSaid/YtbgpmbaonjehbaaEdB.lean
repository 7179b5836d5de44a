/- Contracts: the form of an edit step. -/
import Derived.Test.YtbgpmbaonjehbaaEdA
namespace Go.Proofs.Ytbgpmbaonjehbaa
open Go.RowKit
set_option maxHeartbeats 400000 in
theorem isEditStep_any (marks : Int) (s : ES) (w : World) (h0 : 1 ≤ marks) (h1 : marks ≤ 15) : Calls Try.prog 54 #[.int .i64 marks, .agg #[.int .i64 s.kind, .int .i64 s.mark, .int .i64 s.by_, .string ⟨s.reason.toArray⟩]] w fun e w' => e = .returned (.bool (formB marks s)) ∧ Below w.heap.size w w' := by
  obtain ⟨kind, mark, by_, reason, short⟩ := s
  have hw := fun W => isWord_any reason W short
  have hm := fun W => inside_any mark 0 (marks - 1) W
  have hy := fun W => inside_any by_ (-100) 100 W
  have HF : Hid (formB marks ⟨kind, mark, by_, reason, short⟩ = (wordB reason && (inB mark 0 (marks - 1) && (if kind = 0 ∨ kind = 1 then decide (by_ = 0) else if kind = 2 then inB by_ (-100) 100 && decide (by_ ≠ 0) else if kind = 3 then decide (by_ = 0) && decide (mark = 0) else false)))) := rfl
  generalize formB marks ⟨kind, mark, by_, reason, short⟩ = r at HF ⊢
  generalize wordB reason = a at hw HF
  generalize inB mark 0 (marks - 1) = b at hm HF
  generalize inB by_ (-100) 100 = c at hy HF
  have HW := Lib.hid hw
  have HM := Lib.hid hm
  have HY := Lib.hid hy
  dsimp only
  clear hw hm hy short
  cases a
  · go_enter Try.func54, Try.ntmps54
    go_wp2_with (first | (go_at_call 60; with_reducible refine (HW.out _).mono ?_; rintro e w' ⟨rfl, rfl⟩))
    go_ret
    exact ⟨ret_bool (by rw [HF.out]; rfl), by repeat' (first | (with_reducible exact Below.refl _ _) | (with_reducible assumption) | (with_reducible refine Below.alloc ?_ ?_ _) | (with_reducible refine Below.drew ?_) | (with_reducible refine Below.setCell ?_ ?_ _) | (with_reducible refine Below.stepB (by assumption) ?_ ?_) | go_size)⟩
  cases b
  · go_enter Try.func54, Try.ntmps54
    go_wp2_with (first | (go_at_call 60; with_reducible refine (HW.out _).mono ?_; rintro e w' ⟨rfl, rfl⟩) | (go_at_call 44; with_reducible refine (HM.out _).mono ?_; rintro e w' ⟨rfl, rfl⟩))
    go_ret
    exact ⟨ret_bool (by rw [HF.out]; rfl), by repeat' (first | (with_reducible exact Below.refl _ _) | (with_reducible assumption) | (with_reducible refine Below.alloc ?_ ?_ _) | (with_reducible refine Below.drew ?_) | (with_reducible refine Below.setCell ?_ ?_ _) | (with_reducible refine Below.stepB (by assumption) ?_ ?_) | go_size)⟩
  by_cases k0 : kind = 0
  · subst k0
    go_enter Try.func54, Try.ntmps54
    go_wp2_with (first | (go_at_call 60; with_reducible refine (HW.out _).mono ?_; rintro e w' ⟨rfl, rfl⟩) | (go_at_call 44; with_reducible refine (HM.out _).mono ?_; rintro e w' ⟨rfl, rfl⟩))
    go_ret
    exact ⟨ret_bool (by rw [HF.out]; simp; rfl), by repeat' (first | (with_reducible exact Below.refl _ _) | (with_reducible assumption) | (with_reducible refine Below.alloc ?_ ?_ _) | (with_reducible refine Below.drew ?_) | (with_reducible refine Below.setCell ?_ ?_ _) | (with_reducible refine Below.stepB (by assumption) ?_ ?_) | go_size)⟩
  by_cases k1 : kind = 1
  · subst k1
    go_enter Try.func54, Try.ntmps54
    go_wp2_with (first | (go_at_call 60; with_reducible refine (HW.out _).mono ?_; rintro e w' ⟨rfl, rfl⟩) | (go_at_call 44; with_reducible refine (HM.out _).mono ?_; rintro e w' ⟨rfl, rfl⟩))
    go_ret
    exact ⟨ret_bool (by rw [HF.out]; simp; rfl), by repeat' (first | (with_reducible exact Below.refl _ _) | (with_reducible assumption) | (with_reducible refine Below.alloc ?_ ?_ _) | (with_reducible refine Below.drew ?_) | (with_reducible refine Below.setCell ?_ ?_ _) | (with_reducible refine Below.stepB (by assumption) ?_ ?_) | go_size)⟩
  have e0 : (kind == 0) = false := beq_eq_false_iff_ne.2 k0
  have e1 : (kind == 1) = false := beq_eq_false_iff_ne.2 k1
  by_cases k2 : kind = 2
  · subst k2
    clear k0 k1 e0 e1
    cases c
    · go_enter Try.func54, Try.ntmps54
      go_wp2_with (first | (go_at_call 60; with_reducible refine (HW.out _).mono ?_; rintro e w' ⟨rfl, rfl⟩) | (go_at_call 44; with_reducible refine (HM.out _).mono ?_; rintro e w' ⟨rfl, rfl⟩) | (go_at_call 44; with_reducible refine (HY.out _).mono ?_; rintro e w' ⟨rfl, rfl⟩))
      go_ret
      exact ⟨ret_bool (by rw [HF.out]; simp), by repeat' (first | (with_reducible exact Below.refl _ _) | (with_reducible assumption) | (with_reducible refine Below.alloc ?_ ?_ _) | (with_reducible refine Below.drew ?_) | (with_reducible refine Below.setCell ?_ ?_ _) | (with_reducible refine Below.stepB (by assumption) ?_ ?_) | go_size)⟩
    · go_enter Try.func54, Try.ntmps54
      go_wp2_with (first | (go_at_call 60; with_reducible refine (HW.out _).mono ?_; rintro e w' ⟨rfl, rfl⟩) | (go_at_call 44; with_reducible refine (HM.out _).mono ?_; rintro e w' ⟨rfl, rfl⟩) | (go_at_call 44; with_reducible refine (HY.out _).mono ?_; rintro e w' ⟨rfl, rfl⟩))
      go_ret
      exact ⟨ret_bool (by rw [HF.out]; simp; rfl), by repeat' (first | (with_reducible exact Below.refl _ _) | (with_reducible assumption) | (with_reducible refine Below.alloc ?_ ?_ _) | (with_reducible refine Below.drew ?_) | (with_reducible refine Below.setCell ?_ ?_ _) | (with_reducible refine Below.stepB (by assumption) ?_ ?_) | go_size)⟩
  have e2 : (kind == 2) = false := beq_eq_false_iff_ne.2 k2
  by_cases k3 : kind = 3
  · subst k3
    clear k0 k1 k2 e0 e1 e2
    by_cases hz : mark = 0
    · have em : (mark == 0) = true := by simpa using hz
      have HZ := Lib.hid hz
      clear hz
      go_enter Try.func54, Try.ntmps54
      go_wp2_with (first | (go_at_call 60; with_reducible refine (HW.out _).mono ?_; rintro e w' ⟨rfl, rfl⟩) | (go_at_call 44; with_reducible refine (HM.out _).mono ?_; rintro e w' ⟨rfl, rfl⟩))
      go_ret
      exact ⟨ret_bool (by rw [HF.out]; simp [HZ.out]; try rfl), by repeat' (first | (with_reducible exact Below.refl _ _) | (with_reducible assumption) | (with_reducible refine Below.alloc ?_ ?_ _) | (with_reducible refine Below.drew ?_) | (with_reducible refine Below.setCell ?_ ?_ _) | (with_reducible refine Below.stepB (by assumption) ?_ ?_) | go_size)⟩
    · have em : (mark == 0) = false := beq_eq_false_iff_ne.2 hz
      have HZ := Lib.hid hz
      clear hz
      go_enter Try.func54, Try.ntmps54
      go_wp2_with (first | (go_at_call 60; with_reducible refine (HW.out _).mono ?_; rintro e w' ⟨rfl, rfl⟩) | (go_at_call 44; with_reducible refine (HM.out _).mono ?_; rintro e w' ⟨rfl, rfl⟩))
      go_ret
      exact ⟨ret_bool (by rw [HF.out]; simp [HZ.out]; try rfl), by repeat' (first | (with_reducible exact Below.refl _ _) | (with_reducible assumption) | (with_reducible refine Below.alloc ?_ ?_ _) | (with_reducible refine Below.drew ?_) | (with_reducible refine Below.setCell ?_ ?_ _) | (with_reducible refine Below.stepB (by assumption) ?_ ?_) | go_size)⟩
  have e3 : (kind == 3) = false := beq_eq_false_iff_ne.2 k3
  have HN := Lib.hid (And.intro k0 (And.intro k1 (And.intro k2 k3)))
  clear k0 k1 k2 k3
  go_enter Try.func54, Try.ntmps54
  go_wp2_with (first | (go_at_call 60; with_reducible refine (HW.out _).mono ?_; rintro e w' ⟨rfl, rfl⟩) | (go_at_call 44; with_reducible refine (HM.out _).mono ?_; rintro e w' ⟨rfl, rfl⟩))
  go_ret
  exact ⟨ret_bool (by rw [HF.out]; simp [HN.out.1, HN.out.2.1, HN.out.2.2.1, HN.out.2.2.2]), by repeat' (first | (with_reducible exact Below.refl _ _) | (with_reducible assumption) | (with_reducible refine Below.alloc ?_ ?_ _) | (with_reducible refine Below.drew ?_) | (with_reducible refine Below.setCell ?_ ?_ _) | (with_reducible refine Below.stepB (by assumption) ?_ ?_) | go_size)⟩
set_option maxHeartbeats 400000 in
theorem l14Form_any (marks : Int) (s : ES) (w : World) (h0 : 1 ≤ marks) (h1 : marks ≤ 15) : Calls Try.prog 52 #[.int .i64 marks, .agg #[.int .i64 s.kind, .int .i64 s.mark, .int .i64 s.by_, .string ⟨s.reason.toArray⟩]] w fun e w' => e = .returned (.bool (formB marks s)) ∧ Below w.heap.size w w' := by
  obtain ⟨kind, mark, by_, reason, short⟩ := s
  have hw := fun W => l2Word_any reason W short
  have hm := fun W => l1In_any mark 0 (marks - 1) W
  have hy := fun W => l1In_any by_ (-100) 100 W
  have HF : Hid (formB marks ⟨kind, mark, by_, reason, short⟩ = (wordB reason && (inB mark 0 (marks - 1) && (if kind = 0 ∨ kind = 1 then decide (by_ = 0) else if kind = 2 then inB by_ (-100) 100 && decide (by_ ≠ 0) else if kind = 3 then decide (by_ = 0) && decide (mark = 0) else false)))) := rfl
  generalize formB marks ⟨kind, mark, by_, reason, short⟩ = r at HF ⊢
  generalize wordB reason = a at hw HF
  generalize inB mark 0 (marks - 1) = b at hm HF
  generalize inB by_ (-100) 100 = c at hy HF
  have HW := Lib.hid hw
  have HM := Lib.hid hm
  have HY := Lib.hid hy
  dsimp only
  clear hw hm hy short
  cases a
  · go_enter Try.func52, Try.ntmps52
    go_wp2_with (first | (go_at_call 59; with_reducible refine (HW.out _).mono ?_; rintro e w' ⟨rfl, rfl⟩))
    go_ret
    exact ⟨ret_bool (by rw [HF.out]; rfl), by repeat' (first | (with_reducible exact Below.refl _ _) | (with_reducible assumption) | (with_reducible refine Below.alloc ?_ ?_ _) | (with_reducible refine Below.drew ?_) | (with_reducible refine Below.setCell ?_ ?_ _) | (with_reducible refine Below.stepB (by assumption) ?_ ?_) | go_size)⟩
  cases b
  · go_enter Try.func52, Try.ntmps52
    go_wp2_with (first | (go_at_call 59; with_reducible refine (HW.out _).mono ?_; rintro e w' ⟨rfl, rfl⟩) | (go_at_call 47; with_reducible refine (HM.out _).mono ?_; rintro e w' ⟨rfl, rfl⟩))
    go_ret
    exact ⟨ret_bool (by rw [HF.out]; rfl), by repeat' (first | (with_reducible exact Below.refl _ _) | (with_reducible assumption) | (with_reducible refine Below.alloc ?_ ?_ _) | (with_reducible refine Below.drew ?_) | (with_reducible refine Below.setCell ?_ ?_ _) | (with_reducible refine Below.stepB (by assumption) ?_ ?_) | go_size)⟩
  by_cases k0 : kind = 0
  · subst k0
    go_enter Try.func52, Try.ntmps52
    go_wp2_with (first | (go_at_call 59; with_reducible refine (HW.out _).mono ?_; rintro e w' ⟨rfl, rfl⟩) | (go_at_call 47; with_reducible refine (HM.out _).mono ?_; rintro e w' ⟨rfl, rfl⟩))
    go_ret
    exact ⟨ret_bool (by rw [HF.out]; simp; rfl), by repeat' (first | (with_reducible exact Below.refl _ _) | (with_reducible assumption) | (with_reducible refine Below.alloc ?_ ?_ _) | (with_reducible refine Below.drew ?_) | (with_reducible refine Below.setCell ?_ ?_ _) | (with_reducible refine Below.stepB (by assumption) ?_ ?_) | go_size)⟩
  by_cases k1 : kind = 1
  · subst k1
    go_enter Try.func52, Try.ntmps52
    go_wp2_with (first | (go_at_call 59; with_reducible refine (HW.out _).mono ?_; rintro e w' ⟨rfl, rfl⟩) | (go_at_call 47; with_reducible refine (HM.out _).mono ?_; rintro e w' ⟨rfl, rfl⟩))
    go_ret
    exact ⟨ret_bool (by rw [HF.out]; simp; rfl), by repeat' (first | (with_reducible exact Below.refl _ _) | (with_reducible assumption) | (with_reducible refine Below.alloc ?_ ?_ _) | (with_reducible refine Below.drew ?_) | (with_reducible refine Below.setCell ?_ ?_ _) | (with_reducible refine Below.stepB (by assumption) ?_ ?_) | go_size)⟩
  have e0 : (kind == 0) = false := beq_eq_false_iff_ne.2 k0
  have e1 : (kind == 1) = false := beq_eq_false_iff_ne.2 k1
  by_cases k2 : kind = 2
  · subst k2
    clear k0 k1 e0 e1
    cases c
    · go_enter Try.func52, Try.ntmps52
      go_wp2_with (first | (go_at_call 59; with_reducible refine (HW.out _).mono ?_; rintro e w' ⟨rfl, rfl⟩) | (go_at_call 47; with_reducible refine (HM.out _).mono ?_; rintro e w' ⟨rfl, rfl⟩) | (go_at_call 47; with_reducible refine (HY.out _).mono ?_; rintro e w' ⟨rfl, rfl⟩))
      go_ret
      exact ⟨ret_bool (by rw [HF.out]; simp), by repeat' (first | (with_reducible exact Below.refl _ _) | (with_reducible assumption) | (with_reducible refine Below.alloc ?_ ?_ _) | (with_reducible refine Below.drew ?_) | (with_reducible refine Below.setCell ?_ ?_ _) | (with_reducible refine Below.stepB (by assumption) ?_ ?_) | go_size)⟩
    · go_enter Try.func52, Try.ntmps52
      go_wp2_with (first | (go_at_call 59; with_reducible refine (HW.out _).mono ?_; rintro e w' ⟨rfl, rfl⟩) | (go_at_call 47; with_reducible refine (HM.out _).mono ?_; rintro e w' ⟨rfl, rfl⟩) | (go_at_call 47; with_reducible refine (HY.out _).mono ?_; rintro e w' ⟨rfl, rfl⟩))
      go_ret
      exact ⟨ret_bool (by rw [HF.out]; simp; rfl), by repeat' (first | (with_reducible exact Below.refl _ _) | (with_reducible assumption) | (with_reducible refine Below.alloc ?_ ?_ _) | (with_reducible refine Below.drew ?_) | (with_reducible refine Below.setCell ?_ ?_ _) | (with_reducible refine Below.stepB (by assumption) ?_ ?_) | go_size)⟩
  have e2 : (kind == 2) = false := beq_eq_false_iff_ne.2 k2
  by_cases k3 : kind = 3
  · subst k3
    clear k0 k1 k2 e0 e1 e2
    by_cases hz : by_ = 0
    · have em : (by_ == 0) = true := by simpa using hz
      have HZ := Lib.hid hz
      clear hz
      go_enter Try.func52, Try.ntmps52
      go_wp2_with (first | (go_at_call 59; with_reducible refine (HW.out _).mono ?_; rintro e w' ⟨rfl, rfl⟩) | (go_at_call 47; with_reducible refine (HM.out _).mono ?_; rintro e w' ⟨rfl, rfl⟩))
      go_ret
      exact ⟨ret_bool (by rw [HF.out]; simp [HZ.out]; try rfl), by repeat' (first | (with_reducible exact Below.refl _ _) | (with_reducible assumption) | (with_reducible refine Below.alloc ?_ ?_ _) | (with_reducible refine Below.drew ?_) | (with_reducible refine Below.setCell ?_ ?_ _) | (with_reducible refine Below.stepB (by assumption) ?_ ?_) | go_size)⟩
    · have em : (by_ == 0) = false := beq_eq_false_iff_ne.2 hz
      have HZ := Lib.hid hz
      clear hz
      go_enter Try.func52, Try.ntmps52
      go_wp2_with (first | (go_at_call 59; with_reducible refine (HW.out _).mono ?_; rintro e w' ⟨rfl, rfl⟩) | (go_at_call 47; with_reducible refine (HM.out _).mono ?_; rintro e w' ⟨rfl, rfl⟩))
      go_ret
      exact ⟨ret_bool (by rw [HF.out]; simp [HZ.out]; try rfl), by repeat' (first | (with_reducible exact Below.refl _ _) | (with_reducible assumption) | (with_reducible refine Below.alloc ?_ ?_ _) | (with_reducible refine Below.drew ?_) | (with_reducible refine Below.setCell ?_ ?_ _) | (with_reducible refine Below.stepB (by assumption) ?_ ?_) | go_size)⟩
  have e3 : (kind == 3) = false := beq_eq_false_iff_ne.2 k3
  have HN := Lib.hid (And.intro k0 (And.intro k1 (And.intro k2 k3)))
  clear k0 k1 k2 k3
  go_enter Try.func52, Try.ntmps52
  go_wp2_with (first | (go_at_call 59; with_reducible refine (HW.out _).mono ?_; rintro e w' ⟨rfl, rfl⟩) | (go_at_call 47; with_reducible refine (HM.out _).mono ?_; rintro e w' ⟨rfl, rfl⟩))
  go_ret
  exact ⟨ret_bool (by rw [HF.out]; simp [HN.out.1, HN.out.2.1, HN.out.2.2.1, HN.out.2.2.2]), by repeat' (first | (with_reducible exact Below.refl _ _) | (with_reducible assumption) | (with_reducible refine Below.alloc ?_ ?_ _) | (with_reducible refine Below.drew ?_) | (with_reducible refine Below.setCell ?_ ?_ _) | (with_reducible refine Below.stepB (by assumption) ?_ ?_) | go_size)⟩
end Go.Proofs.Ytbgpmbaonjehbaa
