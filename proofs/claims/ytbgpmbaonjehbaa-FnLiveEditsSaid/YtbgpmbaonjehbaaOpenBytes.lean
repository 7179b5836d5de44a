/- A list of bytes that came in: it is opened. -/
import Derived.Test.YtbgpmbaonjehbaaFrame
namespace Go.Proofs.Ytbgpmbaonjehbaa
open Go.ChangeShapes Go.WideShapes Go.ChangeAt Go.RowKit Go.Deep
set_option maxRecDepth 100000 in
theorem open_bytes {H : Type} {enc : TypeId × Value → H} {W : World} {r : Reach} {b0 : Nat} {sp : Nat → Bool} {held : Bool} {v : Value} {d : DataW H} {p : List MemPlace}
    (hv : Value.okWide Try.prog W r b0 22 v) (h : DataW.Trod enc Try.prog W 0 sp held 22 v d p) :
    ∃ (A : Option Addr) (n c : Nat) (B : Nat → Int), v = .slice A n c ∧ n ≤ 9223372036854775807 ∧ (∀ i, 0 ≤ B i ∧ B i ≤ 255) ∧ Sl W 1 A n (fun i _ => .int .u8 (B i)) := by
  have hs := Try.underlying22
  obtain ⟨A, n, c, rfl⟩ := okWide_slice hs hv
  obtain ⟨fuel, hf⟩ := h
  rcases open_slice hs hf with ⟨h0, _⟩ | ⟨a, n', c', m, q, D, Pl, h0, _, hl, hm, hmm, _, hel⟩
  · have : A = none ∧ n = 0 ∧ c = 0 := by simpa [Value.cells] using h0
    obtain ⟨rfl, rfl, rfl⟩ := this
    exact ⟨none, 0, 0, fun _ => 0, rfl, by omega, fun _ => ⟨Int.le_refl 0, show (0 : Int) ≤ 255 by decide⟩, fun h => absurd h (by omega)⟩
  · have : A = some a ∧ n = n' ∧ c = c' := by simpa [Value.cells] using h0
    obtain ⟨rfl, rfl, rfl⟩ := this
    have hnm : n ≤ m := by rw [hmm]; split <;> omega
    have key : ∀ i, i < n → ∃ z : Int, W.cell? (a.add i) = some (.int .u8 z) ∧ 0 ≤ z ∧ z ≤ 255 := by
      intro i hi
      obtain ⟨cs', hc, ht⟩ := hel i (by omega)
      rw [show Try.prog.cellsOf 5 = 1 from by kernel_rfl] at hc
      obtain ⟨_, hlen, hget⟩ := World.cells?_some hc
      obtain ⟨z, rfl, _, hw⟩ := DataW.trod_int Try.underlying5 ht
      refine ⟨z, ?_, ?_⟩
      · have := hget 0 (by decide)
        rw [Go.Deep.add_add] at this
        simpa using this
      · simp [Lit.wf] at hw
        rw [show IntKind.u8.min = 0 from by decide, show IntKind.u8.max = 255 from by decide] at hw
        exact hw
    refine ⟨some a, n, c, fun i => match W.cell? (a.add i) with | some (.int _ z) => (if 0 ≤ z ∧ z ≤ 255 then z else 0) | _ => 0, rfl, by unfold maxLen at hm; omega, fun i => ?_, fun hn => ?_⟩
    · show 0 ≤ (match W.cell? (a.add i) with | some (.int _ z) => (if 0 ≤ z ∧ z ≤ 255 then z else 0) | _ => 0) ∧ (match W.cell? (a.add i) with | some (.int _ z) => (if 0 ≤ z ∧ z ≤ 255 then z else 0) | _ => 0) ≤ 255
      split
      · split <;> omega
      · omega
    · obtain ⟨z0, hz0, _⟩ := key 0 hn
      obtain ⟨b, off, spot⟩ := a
      have hspot : spot = none := by simpa [Addr.add] using World.cell?_spot hz0
      subst hspot
      refine ⟨b, off, rfl, by simpa [Addr.add] using block_lt_of_cell hz0, fun i j hi hj => ?_⟩
      obtain rfl : j = 0 := by omega
      obtain ⟨z, hz, h1, h2⟩ := key i hi
      have e1 : (⟨b, off, none⟩ : Addr).add i = ⟨b, off + i, none⟩ := Go.WideShapes.add_plain _ _ _
      rw [show off + i * 1 + 0 = off + i by omega, ← e1]
      simp [hz, h1, h2]
end Go.Proofs.Ytbgpmbaonjehbaa
