/- append of a whole slice to a row of the call's own, as one step of a region that draws its order. -/
import Derived.Test.YtbgpmbaonjehbaaApp
import Derived.Deep.RegionLaw
import Derived.Deep.RegionHeld3
namespace Go.Proofs.Ytbgpmbaonjehbaa
open Go.RowKit
theorem step_append_rowG {P : Program} {w : World} {ops : Array Oper} {o : Oper} {a : Act} {K : Act → World → Prop} {Q : Exit → Act → World → Prop} {E : Prop} (hgd : o.guard = none) (s x : Operand) (t : TypeId)
    (ho : o.op = .call { callee := .builtin .append, args := #[s, x], argTypes := #[t, t] })
    (base : Nat) (e : TypeId) (i : TypeInfo) (z : Value) (k bytes : Nat) (ht : P.underlying t = some (.slice e)) (hi : P.info? e = some i) (hz : i.zero = some z) (hsize : i.size = k) (hby : i.bytes = bytes)
    (hzs : z.cells.size = k) (hk : 0 < k)
    (v : Value) (n : Nat) (xs : List Value) (hs : a.eval s = v) (hown : w.ownsRow base e k v n xs)
    (b off m c : Nat) (g : Nat → Nat → Value) (hx : a.eval x = .slice (some ⟨b, off, none⟩) m c) (hcell : ∀ i j, i < m → j < k → w.cell? ⟨b, off + i * k + j, none⟩ = some (g i j))
    (h1 : ∀ i j, (g i j).oneCell' = true) (hn : n + m ≤ 1048576) (hbs : bytes ≤ 1000) (hbase : base ≤ w.heap.size)
    (h : ∀ v' w', w'.ownsRow base e k v' (n + m) (xs ++ flatG k g m) → Below base w w' → (∀ q, q < w.heap.size → some q ≠ v.ownBlock → w'.heap[q]? = w.heap[q]?) → K (a.put o.dst v') w') :
    if Region.wanted o (yielded ops a.tmps) = true then Oper.wp P o a w K Q else E := by
  have hw : Region.wanted o (yielded ops a.tmps) = true := by simp [Region.wanted, hgd]
  rw [if_pos hw]
  refine wp_append_own w s x t ho base e i z k bytes ht hi hz hsize hby hzs hk v n xs hs hown ⟨b, off, none⟩ m c (flatG k g m) hx (flatG_len k g m) ?_ ?_ (by unfold maxLen; omega) ?_ hbase ?_
  · intro q u hu
    obtain ⟨h2, h3, rfl⟩ := flatG_at hk hu
    have h4 := hcell _ _ h2 h3
    rw [Nat.add_assoc, Nat.mul_comm (q / k) k, Nat.div_add_mod] at h4
    rw [Addr.add_lit]
    exact h4
  · intro u hu
    obtain ⟨i, j, rfl⟩ := flatG_mem hu
    exact h1 i j
  · exact Nat.le_trans (Nat.mul_le_mul hn hbs) (by decide)
  · intro v' w' h1 h2 _
    refine h v' w' h1 ((Below.refl base w).grown h2 hbase ?_) (fun q hq hne => h2.block q hq hne)
    intro k hk
    rcases hown.2 with ⟨rfl, _⟩ | ⟨g, cap, cur, rfl, hg, _⟩
    · simp [Value.ownBlock] at hk
    · simp [Value.ownBlock] at hk
      omega
end Go.Proofs.Ytbgpmbaonjehbaa
