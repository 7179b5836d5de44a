/- append of one number to a row of the call's own, while another range of blocks stands. -/
import Derived.Test.YtakkgagdbmlafaaInts
import Derived.Deep.AppendLies
namespace Go.Proofs.Ytakkgagdbmlafaa
open Go.RowKit
/-- the row of v lies outside of the blocks lo .. hi - 1 -/
def AwayRow (v : Value) (lo hi : Nat) : Prop := ∀ g, v.ownBlock = some g → g < lo ∨ hi ≤ g
theorem AwayRow.at {A : Option Addr} {n c lo hi : Nat} {g : Nat} (h : g < lo ∨ hi ≤ g) (hA : A = some ⟨g, 0, none⟩) : AwayRow (.slice A n c) lo hi := by
  subst hA
  intro k hk
  have : g = k := by simpa [Value.ownBlock] using hk
  omega
theorem wpList_append_int1_away {P : Program} (w : World) {ops : Array Oper} {rest : List Oper} {o : Oper} {a : Act} {Q : Exit → Act → World → Prop} (hgd : o.guard = none) (s x : Operand) (t : TypeId)
    (ho : o.op = .call { callee := .builtin .append, args := #[s, x], argTypes := #[t, t] })
    (base : Nat) (e : TypeId) (i : TypeInfo) (ht : P.underlying t = some (.slice e)) (hi : P.info? e = some i) (hz : i.zero = some (.int .i64 0)) (hsize : i.size = 1) (hby : i.bytes = 8)
    (v : Value) (n : Nat) (xs : List Value) (hs : a.eval s = v) (hown : w.ownsRow base e 1 v n xs) (lo top : Nat) (haw : AwayRow v lo top) (htop : top ≤ w.heap.size)
    (ad : Addr) (c : Nat) (z : Int) (hx : a.eval x = .slice (some ad) 1 c) (hcell : w.cell? ad = some (.int .i64 z)) (hn : n ≤ 1048576) (hbase : base ≤ w.heap.size)
    (h : ∀ v' w', w'.ownsRow base e 1 v' (n + 1) (xs ++ [.int .i64 z]) → Below base w w' → AwayRow v' lo top → (∀ b, lo ≤ b → b < top → w'.heap[b]? = w.heap[b]?) → wpList P ops Q rest (a.put o.dst v') w') : wpList P ops Q (o :: rest) a w := by
  refine wpList_plain hgd fun _ hK => wp_append_lies w s x t ho base e i (.int .i64 0) 1 8 ht hi hz hsize hby rfl (by decide) v n xs hs hown ad 1 c [.int .i64 z] hx rfl ?_ ?_ (by decide) (by unfold maxLen; omega) (by omega) hbase _ rfl ?_
  · intro j u hu
    match j, hu with
    | 0, hu => simp at hu; subst hu; simpa [Addr.add] using hcell
    | j + 1, hu => simp at hu
  · intro u hu
    simp at hu
    subst hu
    rfl
  · intro g cap w' h1 h2 h3 _
    refine hK _ _ (h _ w' h1 ((Below.refl base w).grown h2 hbase ?_) ?_ ?_)
    · intro k hk
      rcases hown.2 with ⟨rfl, _⟩ | ⟨g, cap, cur, rfl, hg, _⟩
      · simp [Value.ownBlock] at hk
      · simp [Value.ownBlock] at hk
        omega
    · intro k hk
      have hgk : g = k := by simpa [Value.ownBlock] using hk
      subst hgk
      rcases h3 with h3 | h3
      · exact haw _ h3
      · omega
    · intro b hb1 hb2
      refine h2.block b (by omega) (fun hc => ?_)
      have := haw b hc.symm
      omega
end Go.Proofs.Ytakkgagdbmlafaa
