/- append of a slice's elements to a row that is there; rows of elements of k cells. -/
import Derived.Test.YtbgpmbaonjehbaaApp
namespace Go.Proofs.Ytbgpmbaonjehbaa
open Go.RowKit
/-- a slice's elements appended to a row of the call's own: a row that is there stays there -/
theorem wpList_append_rowS {P : Program} (w : World) {ops : Array Oper} {rest : List Oper} {o : Oper} {a : Act} {Q : Exit → Act → World → Prop} (hgd : o.guard = none) (s x : Operand) (t : TypeId)
    (ho : o.op = .call { callee := .builtin .append, args := #[s, x], argTypes := #[t, t] })
    (base : Nat) (e : TypeId) (i : TypeInfo) (z : Value) (k bytes : Nat) (ht : P.underlying t = some (.slice e)) (hi : P.info? e = some i) (hz : i.zero = some z) (hsize : i.size = k) (hby : i.bytes = bytes)
    (hzs : z.cells.size = k) (hk : 0 < k)
    (v : Value) (n : Nat) (xs : List Value) (hs : a.eval s = v) (hown : w.ownsRow base e k v n xs) (hv : v ≠ .slice none 0 0)
    (b off m c : Nat) (g : Nat → Nat → Value) (hx : a.eval x = .slice (some ⟨b, off, none⟩) m c) (hcell : ∀ i j, i < m → j < k → w.cell? ⟨b, off + i * k + j, none⟩ = some (g i j))
    (h1 : ∀ i j, (g i j).oneCell' = true) (hn : n + m ≤ 1048576) (hbs : bytes ≤ 1000) (hbase : base ≤ w.heap.size)
    (h : ∀ b' c' w', w'.ownsRow base e k (.slice (some ⟨b', 0, none⟩) (n + m) c') (n + m) (xs ++ flatG k g m) → n + m ≤ c' → base ≤ b' → Below base w w' → wpList P ops Q rest (a.put o.dst (.slice (some ⟨b', 0, none⟩) (n + m) c')) w') : wpList P ops Q (o :: rest) a w := by
  refine wpList_append_own w hgd s x t ho base e i z k bytes ht hi hz hsize hby hzs hk v n xs hs hown ⟨b, off, none⟩ m c (flatG k g m) hx (flatG_len k g m) ?_ ?_ (by unfold maxLen; omega) ?_ hbase ?_
  · intro q u hu
    obtain ⟨h2, h3, rfl⟩ := flatG_at hk hu
    have h4 := hcell _ _ h2 h3
    rw [Nat.add_assoc, Nat.mul_comm (q / k) k, Nat.div_add_mod] at h4
    rw [Addr.add_lit]
    exact h4
  · intro u hu
    obtain ⟨i, j, rfl⟩ := flatG_mem hu
    exact h1 i j
  · exact Nat.le_trans (Nat.mul_le_mul hn hbs) (by decide)
  · intro v' w' h1 h2 h3
    have hb : Below base w w' := (Below.refl base w).grown h2 hbase (by
      intro k hk
      rcases hown.2 with ⟨rfl, _⟩ | ⟨g, cap, cur, rfl, hg, _⟩
      · simp [Value.ownBlock] at hk
      · simp [Value.ownBlock] at hk
        omega)
    rcases h1.2 with ⟨rfl, _⟩ | ⟨g', cap, cur, rfl, hg, hh, hnc, _⟩
    · exact absurd (h3.1 rfl).1 hv
    · exact h g' cap w' h1 hnc hg hb
theorem flatG_snoc {k n : Nat} (f : Nat → Nat → Value) (s : Nat → Value) (hk : 0 < k) : flatG k f n ++ flatG k (fun _ j => s j) 1 = flatG k (fun i j => if i = n then s j else f i j) (n + 1) := by
  refine List.ext_getElem? (fun q => ?_)
  have hl1 := flatG_len k f n
  by_cases hq : q < (n + 1) * k
  · have e1 : q / k < n + 1 := (Nat.div_lt_iff_lt_mul hk).2 hq
    have e2 : q % k < k := Nat.mod_lt _ hk
    have h2 := flatG_get (k := k) (g := fun i j => if i = n then s j else f i j) (n := n + 1) (i := q / k) (j := q % k) e1 e2
    rw [Nat.mul_comm, Nat.div_add_mod] at h2
    rw [h2]
    rcases Nat.lt_or_ge q (n * k) with h3 | h3
    · have e3 : q / k < n := (Nat.div_lt_iff_lt_mul hk).2 h3
      rw [List.getElem?_append_left (by omega)]
      have h4 := flatG_get (k := k) (g := f) (n := n) (i := q / k) (j := q % k) e3 e2
      rw [Nat.mul_comm, Nat.div_add_mod] at h4
      rw [h4, if_neg (by omega)]
    · have e4 : ¬ q / k < n := fun h => by
        have := (Nat.div_lt_iff_lt_mul hk).1 h
        omega
      have e5 : q / k = n := by omega
      rw [List.getElem?_append_right (by omega), hl1, if_pos e5]
      have h5 := Nat.div_add_mod q k
      rw [e5] at h5
      have h6 := flatG_get (k := k) (g := fun _ j => s j) (n := 1) (i := 0) (j := q % k) (by decide) e2
      rw [Nat.zero_mul, Nat.zero_add] at h6
      rw [Nat.mul_comm] at h5
      rw [show q - n * k = q % k by omega]
      exact h6
  · rw [List.getElem?_eq_none (by rw [List.length_append, hl1, flatG_len]; rw [Nat.add_mul] at hq; omega), List.getElem?_eq_none (by rw [flatG_len]; omega)]
end Go.Proofs.Ytbgpmbaonjehbaa
