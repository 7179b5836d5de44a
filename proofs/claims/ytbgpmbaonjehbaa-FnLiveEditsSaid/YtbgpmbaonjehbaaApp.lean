/- append of a whole slice to a row of the call's own: elements of any number of cells. -/
import Derived.Test.YtbgpmbaonjehbaaInts
namespace Go.Proofs.Ytbgpmbaonjehbaa
open Go.RowKit
/-- the cells of n elements of k cells -/
def flatG (k : Nat) (g : Nat → Nat → Value) (n : Nat) : List Value := (List.range (n * k)).map (fun q => g (q / k) (q % k))
theorem flatG_len (k : Nat) (g : Nat → Nat → Value) (n : Nat) : (flatG k g n).length = n * k := by simp [flatG]
theorem flatG_get {k : Nat} {g : Nat → Nat → Value} {n i j : Nat} (hi : i < n) (hj : j < k) : (flatG k g n)[i * k + j]? = some (g i j) := by
  have hlt : i * k + j < n * k := by
    have : (i + 1) * k ≤ n * k := Nat.mul_le_mul_right _ hi
    rw [Nat.add_mul] at this
    omega
  have e1 : (i * k + j) / k = i := by rw [Nat.mul_comm, Nat.mul_add_div (by omega), Nat.div_eq_of_lt hj, Nat.add_zero]
  have e2 : (i * k + j) % k = j := by rw [Nat.mul_comm, Nat.mul_add_mod, Nat.mod_eq_of_lt hj]
  simp [flatG, hlt, e1, e2]
theorem flatG_at {k : Nat} {g : Nat → Nat → Value} {n q : Nat} {u : Value} (hk : 0 < k) (h : (flatG k g n)[q]? = some u) : q / k < n ∧ q % k < k ∧ u = g (q / k) (q % k) := by
  have hq : q < n * k := by
    have := (List.getElem?_eq_some_iff.1 h).1
    rwa [flatG_len] at this
  refine ⟨(Nat.div_lt_iff_lt_mul hk).2 hq, Nat.mod_lt _ hk, ?_⟩
  simp [flatG, hq] at h
  exact h.symm
theorem flatG_mem {k : Nat} {g : Nat → Nat → Value} {n : Nat} {u : Value} (h : u ∈ flatG k g n) : ∃ i j, u = g i j := by
  simp only [flatG, List.mem_map] at h
  obtain ⟨q, _, rfl⟩ := h
  exact ⟨_, _, rfl⟩
/-- a slice's elements appended to a row of the call's own -/
theorem wpList_append_rowG {P : Program} (w : World) {ops : Array Oper} {rest : List Oper} {o : Oper} {a : Act} {Q : Exit → Act → World → Prop} (hgd : o.guard = none) (s x : Operand) (t : TypeId)
    (ho : o.op = .call { callee := .builtin .append, args := #[s, x], argTypes := #[t, t] })
    (base : Nat) (e : TypeId) (i : TypeInfo) (z : Value) (k bytes : Nat) (ht : P.underlying t = some (.slice e)) (hi : P.info? e = some i) (hz : i.zero = some z) (hsize : i.size = k) (hby : i.bytes = bytes)
    (hzs : z.cells.size = k) (hk : 0 < k)
    (v : Value) (n : Nat) (xs : List Value) (hs : a.eval s = v) (hown : w.ownsRow base e k v n xs)
    (b off m c : Nat) (g : Nat → Nat → Value) (hx : a.eval x = .slice (some ⟨b, off, none⟩) m c) (hcell : ∀ i j, i < m → j < k → w.cell? ⟨b, off + i * k + j, none⟩ = some (g i j))
    (h1 : ∀ i j, (g i j).oneCell' = true) (hn : n + m ≤ 1048576) (hbs : bytes ≤ 1000) (hbase : base ≤ w.heap.size)
    (h : ∀ v' w', w'.ownsRow base e k v' (n + m) (xs ++ flatG k g m) → Below base w w' → wpList P ops Q rest (a.put o.dst v') w') : wpList P ops Q (o :: rest) a w := by
  refine wpList_append_own w hgd s x t ho base e i z k bytes ht hi hz hsize hby hzs hk v n xs hs hown ⟨b, off, none⟩ m c (flatG k g m) hx (flatG_len k g m) ?_ ?_ (by unfold maxLen; omega) ?_ hbase ?_
  · intro q u hu
    obtain ⟨h2, h3, rfl⟩ := flatG_at hk hu
    have h4 := hcell _ _ h2 h3
    rw [Nat.add_assoc, Nat.mul_comm (q / k) k, Nat.div_add_mod] at h4
    rw [Addr.add_lit]
    exact h4
  · intro u hu
    obtain ⟨i, j, rfl⟩ := flatG_mem hu
    exact h1 i j
  · exact Nat.le_trans (Nat.mul_le_mul hn hbs) (by decide)
  · intro v' w' h1 h2 _
    refine h v' w' h1 ((Below.refl base w).grown h2 hbase ?_)
    intro k hk
    rcases hown.2 with ⟨rfl, _⟩ | ⟨g, cap, cur, rfl, hg, _⟩
    · simp [Value.ownBlock] at hk
    · simp [Value.ownBlock] at hk
      omega
theorem own_flat {w : World} {base : Nat} {e : TypeId} {k : Nat} {A : Option Addr} {n c : Nat} {g : Nat → Nat → Value} (h : w.ownsRow base e k (.slice A n c) n (flatG k g n)) : Own w base k A n g :=
  ownsRow_own h (fun _ _ hi hj => flatG_get hi hj)
end Go.Proofs.Ytbgpmbaonjehbaa
