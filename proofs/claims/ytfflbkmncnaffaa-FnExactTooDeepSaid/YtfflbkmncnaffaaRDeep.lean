/- For every list of spots, every list of triples of numbers, every list of numbers and every list of soundings the law FnExactTooDeep returns true and leaves its arguments as they were. No conditions. -/
import Derived.Test.YtfflbkmncnaffaaDeepL
import Derived.Test.YtfflbkmncnaffaaOpenMesh
import Derived.Test.YtfflbkmncnaffaaOpenInts
import Derived.Test.YtfflbkmncnaffaaOpenSounding
namespace Go.Proofs.Ytfflbkmncnaffaa
open Go.ChangeShapes Go.WideShapes Go.ChangeAt Go.RowKit Go.Deep
set_option maxRecDepth 100000 in
theorem FnExactTooDeep_lifted (os : Os) (started : os.Started) (H : Type) (enc : TypeId × Value → H) :
    ReturnsInHanded {} Try.checked os 13 .any (Rows.fnExactTooDeepSpec.pre6 enc Try.prog Try.f13 Rows.fnExactTooDeepRow.domain false) (Rows.fnExactTooDeepSpec.post enc Try.prog Try.f13 false true false false) := by
  refine returnsInHanded_of_change (C := Try.checked) own started (by kernel_rfl) Try.func13
    (ChangeSpec.witness6 (enc := enc) (C := Try.checked) false ⟨#[], #[.slice none 0 0, .slice none 0 0, .slice none 0 0, .slice none 0 0], []⟩ 8 (by kernel_rfl) (by kernel_rfl) (by kernel_rfl) (by kernel_rfl)) ?_
  intro W base args ds gs before hval0 hW _ _
  have hval : ∀ (j : Nat) t v, Try.f13.params[j]? = some t → args[j]? = some v → Value.okWide Try.prog W .any base t v := hval0
  clear hval0
  have hW' := hW
  obtain ⟨p, q, hA0, hV, rfl, hfz, hnd⟩ := hW
  have hA : DataW.TrodAll enc Try.prog W 0 (fun _ => true) true Try.f13.params.toList args.toList ds p := hA0
  clear hA0
  rw [Try.params13] at hA hval
  obtain ⟨rfl, rfl⟩ := trodVars_none hV
  obtain ⟨v0, v1, v2, v3, d0, d1, d2, d3, p0, p1, p2, p3, rfl, rfl, rfl, h0, h1, h2, h3⟩ := trodAll_four hA
  obtain ⟨A, n, c, S, rfl, hn, hS⟩ := open_lawSpots (hval 0 69 v0 rfl rfl) h0
  obtain ⟨A2, m, c2, T, rfl, hm, hS2⟩ := open_trips (hval 1 32 v1 rfl rfl) h1
  obtain ⟨A3, d, c3, L, rfl, hd, hS3⟩ := open_ints (hval 2 33 v2 rfl rfl) h2
  obtain ⟨A4, q, c4, f, rfl, hq, hS4⟩ := open_lawSoundings (hval 3 85 v3 rfl rfl) h3
  have hcalls := law_TooDeep A n c S A2 m c2 T A3 d c3 L A4 q c4 f W hS hS2 hS3 hS4 hn hm hd hq
  refine hcalls.mono fun e W' ⟨he, hb⟩ => ?_
  subst he
  exact ⟨_, rfl, law_post laidOut (by kernel_rfl) rfl (by kernel_rfl) Try.underlying4 hW' rfl hb⟩
/-- ████ THE STATEMENT ████ -/
theorem FnExactTooDeep_holds : Rows.FnExactTooDeepSaid :=
  OpenClaim.holds_of_wide 13 Try.f13 rfl rfl rfl rfl rfl rfl rfl ⟨rfl, rfl, rfl, rfl, rfl⟩ rfl rfl rfl rfl rfl (by kernel_rfl) Try.func13 (by kernel_rfl)
    (of_decide_eq_true (by kernel_rfl)) (by unfold Func.isWrapper; first | (rw [if_pos (by decide +kernel)]; kernel_rfl) | (rw [if_neg (by decide +kernel)]; exact ⟨rfl, rfl⟩))
    (fun os started H enc _ => FnExactTooDeep_lifted os started H enc)
end Go.Proofs.Ytfflbkmncnaffaa
