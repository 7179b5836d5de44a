/- append of one pair of numbers to a row of the call's own. -/
import Derived.Test.YtfflbkmncnaffaaPairA
import Derived.Test.YtfflbkmncnaffaaInts
import Derived.Test.YtfflbkmncnaffaaStepApp
namespace Go.Proofs.Ytfflbkmncnaffaa
open Go.RowKit
def pairCells (L : List (Int × Int)) : List Value := L.flatMap fun p => [.int .i64 p.1, .int .i64 p.2]
theorem pairCells_snoc (L : List (Int × Int)) (p : Int × Int) : pairCells (L ++ [p]) = pairCells L ++ [.int .i64 p.1, .int .i64 p.2] := by simp [pairCells]
theorem pairCells_get : ∀ (L : List (Int × Int)) (i j : Nat), i < L.length → j < 2 → (pairCells L)[i * 2 + j]? = some (pairC (fun i => L.getD i (0, 0)) i j)
  | [], i, j, h, _ => absurd h (by simp)
  | p :: L, 0, j, _, hj => by
    have : j = 0 ∨ j = 1 := by omega
    rcases this with rfl | rfl <;> simp [pairCells, pairC]
  | p :: L, i + 1, j, h, hj => by
    have ih := pairCells_get L i j (by simp at h; omega) hj
    have e : (i + 1) * 2 + j = (i * 2 + j) + 2 := by omega
    rw [e]
    simpa [pairCells, pairC] using ih
theorem ownP_of {w : World} {base : Nat} {e : TypeId} {A : Option Addr} {n c : Nat} {L : List (Int × Int)} (hn : n = L.length) (h : w.ownsRow base e 2 (.slice A n c) n (pairCells L)) : Own w base 2 A n (pairC (fun i => L.getD i (0, 0))) := by
  subst hn
  exact ownsRow_own h (fun i j hi hj => pairCells_get L i j hi hj)
theorem wpList_append_pair {P : Program} (w : World) {ops : Array Oper} {rest : List Oper} {o : Oper} {a : Act} {Q : Exit → Act → World → Prop} (hgd : o.guard = none) (s x : Operand) (t : TypeId)
    (ho : o.op = .call { callee := .builtin .append, args := #[s, x], argTypes := #[t, t] })
    (base : Nat) (e : TypeId) (i : TypeInfo) (ht : P.underlying t = some (.slice e)) (hi : P.info? e = some i) (hz : i.zero = some (.agg #[.int .i64 0, .int .i64 0])) (hsize : i.size = 2) (hby : i.bytes = 16)
    (v : Value) (n : Nat) (xs : List Value) (hs : a.eval s = v) (hown : w.ownsRow base e 2 v n xs)
    (b off : Nat) (c : Nat) (y z : Int) (hx : a.eval x = .slice (some ⟨b, off, none⟩) 1 c) (hy : w.cell? ⟨b, off, none⟩ = some (.int .i64 y)) (hcell : w.cell? ⟨b, off + 1, none⟩ = some (.int .i64 z)) (hn : n ≤ 1048576) (hbase : base ≤ w.heap.size)
    (h : ∀ v' w', w'.ownsRow base e 2 v' (n + 1) (xs ++ [.int .i64 y, .int .i64 z]) → Below base w w' → wpList P ops Q rest (a.put o.dst v') w') : wpList P ops Q (o :: rest) a w := by
  refine wpList_append_own w hgd s x t ho base e i (.agg #[.int .i64 0, .int .i64 0]) 2 16 ht hi hz hsize hby rfl (by decide) v n xs hs hown ⟨b, off, none⟩ 1 c [.int .i64 y, .int .i64 z] hx rfl ?_ ?_ (by unfold maxLen; omega) (by omega) hbase ?_
  · intro j u hu
    match j, hu with
    | 0, hu => simp at hu; subst hu; simpa [Addr.add] using hy
    | 1, hu => simp at hu; subst hu; simpa [Addr.add] using hcell
    | j + 2, hu => simp at hu
  · intro u hu
    simp at hu
    rcases hu with rfl | rfl <;> rfl
  · intro v' w' h1 h2 _
    refine h v' w' h1 ((Below.refl base w).grown h2 hbase ?_)
    intro k hk
    rcases hown.2 with ⟨rfl, _⟩ | ⟨g, cap, cur, rfl, hg, _⟩
    · simp [Value.ownBlock] at hk
    · simp [Value.ownBlock] at hk
      omega
theorem step_append_pair {P : Program} {w : World} {ops : Array Oper} {o : Oper} {a : Act} {K : Act → World → Prop} {Q : Exit → Act → World → Prop} {E : Prop} (hgd : o.guard = none) (s x : Operand) (t : TypeId)
    (ho : o.op = .call { callee := .builtin .append, args := #[s, x], argTypes := #[t, t] })
    (base : Nat) (e : TypeId) (i : TypeInfo) (ht : P.underlying t = some (.slice e)) (hi : P.info? e = some i) (hz : i.zero = some (.agg #[.int .i64 0, .int .i64 0])) (hsize : i.size = 2) (hby : i.bytes = 16)
    (v : Value) (n : Nat) (xs : List Value) (hs : a.eval s = v) (hown : w.ownsRow base e 2 v n xs)
    (b off : Nat) (c : Nat) (y z : Int) (hx : a.eval x = .slice (some ⟨b, off, none⟩) 1 c) (hy : w.cell? ⟨b, off, none⟩ = some (.int .i64 y)) (hcell : w.cell? ⟨b, off + 1, none⟩ = some (.int .i64 z)) (hn : n ≤ 1048576) (hbase : base ≤ w.heap.size)
    (h : ∀ v' w', w'.ownsRow base e 2 v' (n + 1) (xs ++ [.int .i64 y, .int .i64 z]) → Below base w w' → K (a.put o.dst v') w') :
    if Region.wanted o (yielded ops a.tmps) = true then Oper.wp P o a w K Q else E := by
  refine step_append_lies (w := w) hgd s x t ho base e i (.agg #[.int .i64 0, .int .i64 0]) 2 16 ht hi hz hsize hby rfl (by decide) v n xs hs hown ⟨b, off, none⟩ 1 c [.int .i64 y, .int .i64 z] hx rfl ?_ ?_ (by decide) (by unfold maxLen; omega) (by omega) hbase w.heap.size rfl ?_
  · intro j u hu
    match j, hu with
    | 0, hu => simp at hu; subst hu; simpa [Addr.add] using hy
    | 1, hu => simp at hu; subst hu; simpa [Addr.add] using hcell
    | j + 2, hu => simp at hu
  · intro u hu
    simp at hu
    rcases hu with rfl | rfl <;> rfl
  · intro g cap w' h1 h2 _ _
    refine h _ w' h1 ((Below.refl base w).grown h2 hbase ?_)
    intro k hk
    rcases hown.2 with ⟨rfl, _⟩ | ⟨g, cap, cur, rfl, hg, _⟩
    · simp [Value.ownBlock] at hk
    · simp [Value.ownBlock] at hk
      omega
end Go.Proofs.Ytfflbkmncnaffaa
