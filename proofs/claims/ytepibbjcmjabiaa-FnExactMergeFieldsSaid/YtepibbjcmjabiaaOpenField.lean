/- Fields and lists of numbers that came in: they are opened as numbers. -/
import Derived.Test.YtepibbjcmjabiaaFrame
import Derived.Test.YtepibbjcmjabiaaInts
namespace Go.Proofs.Ytepibbjcmjabiaa
open Go.ChangeShapes Go.WideShapes Go.ChangeAt Go.RowKit Go.Deep
section
variable {H : Type} {enc : TypeId × Value → H} {P : Program}
theorem trod_flat_slice {t e : TypeId} {k : Nat} {W : World} {sp : Nat → Bool} {held : Bool} {fuel : Nat} {cs : List Value} {x : DataW H × List MemPlace}
    (hs : P.underlying t = some (.slice e)) (he : P.cellsOf e = k) (hk : 0 < k) (hfl : FlatInt P e k) (hf : DataW.trod enc P W 0 sp held fuel t cs = some x) :
    ∃ (A : Option Addr) (n c : Nat), cs = [.slice A n c] ∧ n ≤ c ∧ c ≤ maxLen ∧ Sl W k A n (fun i j => .int .i64 (intAt W A (i * k + j))) := by
  rcases open_slice hs hf with ⟨h0, _⟩ | ⟨a, n, c, m, q, D, Pl, h0, _, hl, hm, hmm, _, hel⟩
  · exact ⟨none, 0, 0, h0, Nat.le_refl _, Nat.zero_le _, fun h => absurd h (by omega)⟩
  · have hnm : n ≤ m := by rw [hmm]; split <;> omega
    have key : ∀ i j, i < n → j < k → ∃ z : Int, W.cell? (a.add (i * k + j)) = some (.int .i64 z) := by
      intro i j hi hj
      obtain ⟨cs', hc, ht⟩ := hel i (by omega)
      rw [he] at hc
      obtain ⟨_, hlen, hget⟩ := World.cells?_some hc
      obtain ⟨_, hall⟩ := hfl _ _ _ _ _ _ _ _ ht
      obtain ⟨z, hz, hw⟩ := hall j hj
      refine ⟨z, ?_⟩
      rw [← Go.Deep.add_add, hget j hj, hz]
    refine ⟨some a, n, c, h0, hl, hm, ?_⟩
    intro hn
    obtain ⟨z0, hz0⟩ := key 0 0 hn hk
    obtain ⟨b, off, spot⟩ := a
    have hspot : spot = none := by simpa [Addr.add] using World.cell?_spot hz0
    subst hspot
    refine ⟨b, off, rfl, by simpa [Addr.add] using block_lt_of_cell hz0, fun i j hi hj => ?_⟩
    obtain ⟨z, hz⟩ := key i j hi hj
    have e1 : (⟨b, off, none⟩ : Addr).add (i * k + j) = ⟨b, off + i * k + j, none⟩ := by rw [Nat.add_assoc]; exact Go.WideShapes.add_plain _ _ _
    simp only [intAt, hz]
    rw [← e1, hz]
end
set_option maxRecDepth 100000 in
theorem open_lawField {H : Type} {enc : TypeId × Value → H} {W : World} {r : Reach} {b0 : Nat} {sp : Nat → Bool} {held : Bool} {v : Value} {d : DataW H} {p : List MemPlace}
    (hv : Value.okWide Try.prog W r b0 24 v) (h : DataW.Trod enc Try.prog W 0 sp held 24 v d p) :
    ∃ (r cl : Int) (A : Option Addr) (n c : Nat) (L : Nat → Int), v = .agg #[.int .i64 r, .int .i64 cl, .slice A n c] ∧ n ≤ 9223372036854775807 ∧ SlI W A n L := by
  obtain ⟨cs, rfl, hsz⟩ := okWide_struct Try.underlying24 hv
  obtain ⟨fuel, hf⟩ := h
  obtain ⟨xs, m, _, _, hlen, hxl, hfs⟩ := DataW.trod_struct Try.underlying24 hf
  obtain ⟨l⟩ := cs
  simp only [Value.cells] at hfs hsz
  have hl3 : l.length = 3 := hsz.trans (by kernel_rfl)
  match l, hl3 with
  | [v0, v1, v2], _ =>
    have hx3 : xs.length = 3 := hxl
    match xs, hx3 with
    | [x0, x1, x2], _ =>
      have h0 := hfs 0 _ rfl
      have h1 := hfs 1 _ rfl
      have h2 := hfs 2 _ rfl
      obtain ⟨n0, e0, _, _⟩ := DataW.trod_int Try.underlying3 h0
      obtain ⟨n1, e1, _, _⟩ := DataW.trod_int Try.underlying3 h1
      obtain ⟨A, n, c, e2, hnc, hc, hS⟩ := trod_flat_slice Try.underlying22 (k := 1) (by kernel_rfl) (by decide) (flat_int Try.underlying3) h2
      have e0' : [v0] = [Value.int .i64 n0] := e0
      have e1' : [v1] = [Value.int .i64 n1] := e1
      have e2' : [v2] = [Value.slice A n c] := e2
      simp only [List.cons.injEq, and_true] at e0' e1' e2'
      subst e0' e1' e2'
      unfold maxLen at hc
      refine ⟨n0, n1, A, n, c, fun i => intAt W A (i * 1), rfl, by omega, fun hn => ?_⟩
      obtain ⟨b, off, hA, hbl, hcell⟩ := hS hn
      refine ⟨b, off, hA, hbl, fun i j hi hj => ?_⟩
      rw [hcell i j hi hj]
      obtain rfl : j = 0 := by omega
      rfl
end Go.Proofs.Ytepibbjcmjabiaa
