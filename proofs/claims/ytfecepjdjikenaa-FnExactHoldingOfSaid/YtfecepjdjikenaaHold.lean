/- For all samples the laws FnExactHoldingOf and FnExactBlendSamples return true and leave their arguments as they were. No conditions. -/
import Derived.Test.YtfecepjdjikenaaOne
import Derived.Test.YtfecepjdjikenaaFrame
namespace Go.Proofs.Ytfecepjdjikenaa
open Go.ChangeShapes Go.WideShapes Go.ChangeAt Go.RowKit Go.Deep

theorem okS_bd {s : BS} (h : okS s = true) : ((1 ≤ s.id ∧ s.id ≤ 999) ∧ ((0 ≤ s.x ∧ s.x ≤ 1000) ∧ (0 ≤ s.y ∧ s.y ≤ 1000)) ∧ (0 ≤ s.mud ∧ s.mud ≤ 100) ∧ (0 ≤ s.sand ∧ s.sand ≤ 100) ∧ (0 ≤ s.rock ∧ s.rock ≤ 100)) ∧ s.mud + s.sand + s.rock = 100 := by
  simp [okS, inB, spotB] at h
  omega
def holdV (s : BS) : Int := (3 * s.mud + 4 * s.sand + s.rock) / 4

theorem l18Holding_any (s : BS) (w : World) (h : okS s = true) : Calls Try.prog 65 #[.agg #[.int .i64 s.id, .int .i64 s.x, .int .i64 s.y, .int .i64 s.mud, .int .i64 s.sand, .int .i64 s.rock]] w fun e w' => e = .returned (.int .i64 (holdV s)) ∧ Below w.heap.size w w' := by
  obtain ⟨⟨_, _, ⟨_, _⟩, ⟨_, _⟩, ⟨_, _⟩⟩, _⟩ := okS_bd h
  clear h
  go_enter Try.func65, Try.ntmps65
  go_wp2
  go_ret
  exact ⟨rfl, by repeat' (first | (with_reducible exact Below.refl _ _) | (with_reducible assumption) | (with_reducible refine Below.alloc ?_ ?_ _) | (with_reducible refine Below.drew ?_) | (with_reducible refine Below.setCell ?_ ?_ _) | (with_reducible refine Below.step (by assumption) ?_ ?_) | go_size)⟩
theorem holdingOf_any (s : BS) (w : World) (h : okS s = true) : Calls Try.prog 66 #[.agg #[.int .i64 s.id, .int .i64 s.x, .int .i64 s.y, .int .i64 s.mud, .int .i64 s.sand, .int .i64 s.rock]] w fun e w' => e = .returned (.int .i64 (holdV s)) ∧ Below w.heap.size w w' := by
  obtain ⟨⟨_, _, ⟨_, _⟩, ⟨_, _⟩, ⟨_, _⟩⟩, _⟩ := okS_bd h
  clear h
  go_enter Try.func66, Try.ntmps66
  go_wp2
  go_ret
  exact ⟨rfl, by repeat' (first | (with_reducible exact Below.refl _ _) | (with_reducible assumption) | (with_reducible refine Below.alloc ?_ ?_ _) | (with_reducible refine Below.drew ?_) | (with_reducible refine Below.setCell ?_ ?_ _) | (with_reducible refine Below.step (by assumption) ?_ ?_) | go_size)⟩
theorem specHoldingOf_yes (s : BS) (w : World) (h : okS s = true) : Calls Try.prog 18 #[.agg #[.int .i64 s.id, .int .i64 s.x, .int .i64 s.y, .int .i64 s.mud, .int .i64 s.sand, .int .i64 s.rock]] w fun e w' => e = .returned (.tuple #[.int .i64 (holdV s), .bool true]) ∧ Below w.heap.size w w' := by
  go_enter Try.func18, Try.ntmps18
  go_wp2_with (first | (go_at_call 62; refine (l18One_any s _).mono ?_; rintro e w1 ⟨rfl, hbw1⟩; obtain ⟨hzw1, hcw1, hfw1⟩ := bfacts hbw1; (try simp at hzw1 hcw1 hfw1); (try (have : w.heap.size < w1.heap.size := by omega)); (try (have : w.heap.size + 1 < w1.heap.size := by omega)); (try (have : w.heap.size + 2 < w1.heap.size := by omega))) | (go_at_call 65; refine (l18Holding_any s _ h).mono ?_; rintro e w2 ⟨rfl, hbw2⟩; obtain ⟨hzw2, hcw2, hfw2⟩ := bfacts hbw2; (try simp at hzw2 hcw2 hfw2); (try (have : w.heap.size < w2.heap.size := by omega)); (try (have : w.heap.size + 1 < w2.heap.size := by omega)); (try (have : w.heap.size + 2 < w2.heap.size := by omega))))
  go_returns
  exact ⟨rfl, by repeat' (first | (with_reducible exact Below.refl _ _) | (with_reducible assumption) | (with_reducible refine Below.alloc ?_ ?_ _) | (with_reducible refine Below.drew ?_) | (with_reducible refine Below.setCell ?_ ?_ _) | (with_reducible refine Below.step (by assumption) ?_ ?_) | go_size)⟩
theorem specHoldingOf_no (s : BS) (w : World) (h : okS s = false) : Calls Try.prog 18 #[.agg #[.int .i64 s.id, .int .i64 s.x, .int .i64 s.y, .int .i64 s.mud, .int .i64 s.sand, .int .i64 s.rock]] w fun e w' => e = .returned (.tuple #[.int .i64 0, .bool false]) ∧ Below w.heap.size w w' := by
  go_enter Try.func18, Try.ntmps18
  go_wp2_with (first | (go_at_call 62; refine (l18One_any s _).mono ?_; rintro e w1 ⟨rfl, hbw1⟩; obtain ⟨hzw1, hcw1, hfw1⟩ := bfacts hbw1; (try simp at hzw1 hcw1 hfw1); (try (have : w.heap.size < w1.heap.size := by omega)); (try (have : w.heap.size + 1 < w1.heap.size := by omega)); (try (have : w.heap.size + 2 < w1.heap.size := by omega))))
  go_returns
  exact ⟨rfl, by repeat' (first | (with_reducible exact Below.refl _ _) | (with_reducible assumption) | (with_reducible refine Below.alloc ?_ ?_ _) | (with_reducible refine Below.drew ?_) | (with_reducible refine Below.setCell ?_ ?_ _) | (with_reducible refine Below.step (by assumption) ?_ ?_) | go_size)⟩
theorem HoldingOf_yes (s : BS) (w : World) (h : okS s = true) : Calls Try.prog 19 #[.agg #[.int .i64 s.id, .int .i64 s.x, .int .i64 s.y, .int .i64 s.mud, .int .i64 s.sand, .int .i64 s.rock]] w fun e w' => e = .returned (.tuple #[.int .i64 (holdV s), .bool true]) ∧ Below w.heap.size w w' := by
  go_enter Try.func19, Try.ntmps19
  go_wp2_with (first | (go_at_call 17; refine (IsSample_any s _).mono ?_; rintro e w1 ⟨rfl, hbw1⟩; obtain ⟨hzw1, hcw1, hfw1⟩ := bfacts hbw1; (try simp at hzw1 hcw1 hfw1); (try (have : w.heap.size < w1.heap.size := by omega)); (try (have : w.heap.size + 1 < w1.heap.size := by omega)); (try (have : w.heap.size + 2 < w1.heap.size := by omega))) | (go_at_call 66; refine (holdingOf_any s _ h).mono ?_; rintro e w2 ⟨rfl, hbw2⟩; obtain ⟨hzw2, hcw2, hfw2⟩ := bfacts hbw2; (try simp at hzw2 hcw2 hfw2); (try (have : w.heap.size < w2.heap.size := by omega)); (try (have : w.heap.size + 1 < w2.heap.size := by omega)); (try (have : w.heap.size + 2 < w2.heap.size := by omega))))
  go_returns
  exact ⟨rfl, by repeat' (first | (with_reducible exact Below.refl _ _) | (with_reducible assumption) | (with_reducible refine Below.alloc ?_ ?_ _) | (with_reducible refine Below.drew ?_) | (with_reducible refine Below.setCell ?_ ?_ _) | (with_reducible refine Below.step (by assumption) ?_ ?_) | go_size)⟩
theorem HoldingOf_no (s : BS) (w : World) (h : okS s = false) : Calls Try.prog 19 #[.agg #[.int .i64 s.id, .int .i64 s.x, .int .i64 s.y, .int .i64 s.mud, .int .i64 s.sand, .int .i64 s.rock]] w fun e w' => e = .returned (.tuple #[.int .i64 0, .bool false]) ∧ Below w.heap.size w w' := by
  go_enter Try.func19, Try.ntmps19
  go_wp2_with (first | (go_at_call 17; refine (IsSample_any s _).mono ?_; rintro e w1 ⟨rfl, hbw1⟩; obtain ⟨hzw1, hcw1, hfw1⟩ := bfacts hbw1; (try simp at hzw1 hcw1 hfw1); (try (have : w.heap.size < w1.heap.size := by omega)); (try (have : w.heap.size + 1 < w1.heap.size := by omega)); (try (have : w.heap.size + 2 < w1.heap.size := by omega))))
  go_returns
  exact ⟨rfl, by repeat' (first | (with_reducible exact Below.refl _ _) | (with_reducible assumption) | (with_reducible refine Below.alloc ?_ ?_ _) | (with_reducible refine Below.drew ?_) | (with_reducible refine Below.setCell ?_ ?_ _) | (with_reducible refine Below.step (by assumption) ?_ ?_) | go_size)⟩
theorem law_HoldingOf (s : BS) (w : World) : Calls Try.prog 4 #[.agg #[.int .i64 s.id, .int .i64 s.x, .int .i64 s.y, .int .i64 s.mud, .int .i64 s.sand, .int .i64 s.rock]] w fun e w' => e = .returned (.bool true) ∧ Below w.heap.size w w' := by
  rcases Bool.eq_false_or_eq_true (okS s) with h | h
  · go_enter Try.func4, Try.ntmps4
    go_wp2_with (first | (go_at_call 16; refine (toBottomSample_any s _).mono ?_; rintro e w1 ⟨rfl, hbw1⟩; obtain ⟨hzw1, hcw1, hfw1⟩ := bfacts hbw1; (try simp at hzw1 hcw1 hfw1); (try (have : w.heap.size < w1.heap.size := by omega)); (try (have : w.heap.size + 1 < w1.heap.size := by omega)); (try (have : w.heap.size + 2 < w1.heap.size := by omega))) | (go_at_call 18; refine (specHoldingOf_yes s _ h).mono ?_; rintro e w1 ⟨rfl, hbw1⟩; obtain ⟨hzw1, hcw1, hfw1⟩ := bfacts hbw1; (try simp at hzw1 hcw1 hfw1); (try (have : w.heap.size < w1.heap.size := by omega)); (try (have : w.heap.size + 1 < w1.heap.size := by omega)); (try (have : w.heap.size + 2 < w1.heap.size := by omega))) | (go_at_call 19; refine (HoldingOf_yes s _ h).mono ?_; rintro e w1 ⟨rfl, hbw1⟩; obtain ⟨hzw1, hcw1, hfw1⟩ := bfacts hbw1; (try simp at hzw1 hcw1 hfw1); (try (have : w.heap.size < w1.heap.size := by omega)); (try (have : w.heap.size + 1 < w1.heap.size := by omega)); (try (have : w.heap.size + 2 < w1.heap.size := by omega))))
    go_ret
    exact ⟨rfl, by repeat' (first | (with_reducible exact Below.refl _ _) | (with_reducible assumption) | (with_reducible refine Below.alloc ?_ ?_ _) | (with_reducible refine Below.drew ?_) | (with_reducible refine Below.setCell ?_ ?_ _) | (with_reducible refine Below.step (by assumption) ?_ ?_) | go_size)⟩
  · go_enter Try.func4, Try.ntmps4
    go_wp2_with (first | (go_at_call 16; refine (toBottomSample_any s _).mono ?_; rintro e w1 ⟨rfl, hbw1⟩; obtain ⟨hzw1, hcw1, hfw1⟩ := bfacts hbw1; (try simp at hzw1 hcw1 hfw1); (try (have : w.heap.size < w1.heap.size := by omega)); (try (have : w.heap.size + 1 < w1.heap.size := by omega)); (try (have : w.heap.size + 2 < w1.heap.size := by omega))) | (go_at_call 18; refine (specHoldingOf_no s _ h).mono ?_; rintro e w1 ⟨rfl, hbw1⟩; obtain ⟨hzw1, hcw1, hfw1⟩ := bfacts hbw1; (try simp at hzw1 hcw1 hfw1); (try (have : w.heap.size < w1.heap.size := by omega)); (try (have : w.heap.size + 1 < w1.heap.size := by omega)); (try (have : w.heap.size + 2 < w1.heap.size := by omega))) | (go_at_call 19; refine (HoldingOf_no s _ h).mono ?_; rintro e w1 ⟨rfl, hbw1⟩; obtain ⟨hzw1, hcw1, hfw1⟩ := bfacts hbw1; (try simp at hzw1 hcw1 hfw1); (try (have : w.heap.size < w1.heap.size := by omega)); (try (have : w.heap.size + 1 < w1.heap.size := by omega)); (try (have : w.heap.size + 2 < w1.heap.size := by omega))))
    go_ret
    exact ⟨rfl, by repeat' (first | (with_reducible exact Below.refl _ _) | (with_reducible assumption) | (with_reducible refine Below.alloc ?_ ?_ _) | (with_reducible refine Below.drew ?_) | (with_reducible refine Below.setCell ?_ ?_ _) | (with_reducible refine Below.step (by assumption) ?_ ?_) | go_size)⟩
set_option maxRecDepth 100000 in
theorem open_lawSample {H : Type} {enc : TypeId × Value → H} {W : World} {base : Nat} {r : Reach} {b0 : Nat} {sp : Nat → Bool} {held : Bool} {v : Value} {d : DataW H} {p : List MemPlace}
    (hv : Value.okWide Try.prog W r b0 25 v) (h : DataW.Trod enc Try.prog W base sp held 25 v d p) :
    ∃ s : BS, v = .agg #[.int .i64 s.id, .int .i64 s.x, .int .i64 s.y, .int .i64 s.mud, .int .i64 s.sand, .int .i64 s.rock] := by
  obtain ⟨ns, hn, rfl, _⟩ := open_flat Try.underlying25 flat_lawSample hv h
  match ns, hn with
  | [a, b, c, d, e, f], _ => exact ⟨⟨a, b, c, d, e, f⟩, rfl⟩
set_option maxRecDepth 100000 in
theorem FnExactHoldingOf_lifted (os : Os) (started : os.Started) (H : Type) (enc : TypeId × Value → H) :
    ReturnsInHanded {} Try.checked os 4 .any (Rows.fnExactHoldingOfSpec.pre6 enc Try.prog Try.f4 Rows.fnExactHoldingOfRow.domain false) (Rows.fnExactHoldingOfSpec.post enc Try.prog Try.f4 false true false false) := by
  refine returnsInHanded_of_change (C := Try.checked) own started (by kernel_rfl) Try.func4
    (ChangeSpec.witness6 (enc := enc) (C := Try.checked) false ⟨#[], #[.agg #[.int .i64 0, .int .i64 0, .int .i64 0, .int .i64 0, .int .i64 0, .int .i64 0]], []⟩ 8 (by kernel_rfl) (by kernel_rfl) (by kernel_rfl) (by kernel_rfl)) ?_
  intro W base args ds gs before hval0 hW _ _
  have hval : ∀ (j : Nat) t v, Try.f4.params[j]? = some t → args[j]? = some v → Value.okWide Try.prog W .any base t v := hval0
  clear hval0
  have hW' := hW
  obtain ⟨p, q, hA0, hV, rfl, hfz, hnd⟩ := hW
  have hA : DataW.TrodAll enc Try.prog W 0 (fun _ => true) true Try.f4.params.toList args.toList ds p := hA0
  clear hA0
  rw [Try.params4] at hA hval
  obtain ⟨rfl, rfl⟩ := trodVars_none hV
  obtain ⟨v0, d0, rfl, rfl, h0⟩ := trodAll_one hA
  obtain ⟨s, rfl⟩ := open_lawSample (hval 0 25 v0 rfl rfl) h0
  have hcalls := law_HoldingOf s W
  refine hcalls.mono fun e W' ⟨he, hb⟩ => ?_
  subst he
  exact ⟨_, rfl, law_post laidOut (by kernel_rfl) rfl (by kernel_rfl) Try.underlying4 hW' rfl hb⟩
/-- ████ THE STATEMENT ████ -/
theorem FnExactHoldingOf_holds : Rows.FnExactHoldingOfSaid :=
  OpenClaim.holds_of_wide 4 Try.f4 rfl rfl rfl rfl rfl rfl rfl ⟨rfl, rfl, rfl, rfl, rfl⟩ rfl rfl rfl rfl rfl (by kernel_rfl) Try.func4 (by kernel_rfl)
    (of_decide_eq_true (by kernel_rfl)) (by unfold Func.isWrapper; first | (rw [if_pos (by decide +kernel)]; kernel_rfl) | (rw [if_neg (by decide +kernel)]; exact ⟨rfl, rfl⟩))
    (fun os started H enc _ => FnExactHoldingOf_lifted os started H enc)
end Go.Proofs.Ytfecepjdjikenaa
