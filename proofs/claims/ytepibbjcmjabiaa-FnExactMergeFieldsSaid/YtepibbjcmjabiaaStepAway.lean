/- append of one number, as one step of a region that draws its order, while another range of blocks stands. -/
import Derived.Test.YtepibbjcmjabiaaAway
import Derived.Deep.RegionLaw
import Derived.Deep.RegionHeld3
namespace Go.Proofs.Ytepibbjcmjabiaa
open Go.RowKit
theorem step_append_int1_away {P : Program} {w : World} {ops : Array Oper} {o : Oper} {a : Act} {K : Act → World → Prop} {Q : Exit → Act → World → Prop} {E : Prop} (hgd : o.guard = none) (s x : Operand) (t : TypeId)
    (ho : o.op = .call { callee := .builtin .append, args := #[s, x], argTypes := #[t, t] })
    (base : Nat) (e : TypeId) (i : TypeInfo) (ht : P.underlying t = some (.slice e)) (hi : P.info? e = some i) (hz : i.zero = some (.int .i64 0)) (hsize : i.size = 1) (hby : i.bytes = 8)
    (v : Value) (n : Nat) (xs : List Value) (hs : a.eval s = v) (hown : w.ownsRow base e 1 v n xs) (lo top : Nat) (haw : AwayRow v lo top) (htop : top ≤ w.heap.size)
    (ad : Addr) (c : Nat) (z : Int) (hx : a.eval x = .slice (some ad) 1 c) (hcell : w.cell? ad = some (.int .i64 z)) (hn : n ≤ 1048576) (hbase : base ≤ w.heap.size)
    (h : ∀ v' w', w'.ownsRow base e 1 v' (n + 1) (xs ++ [.int .i64 z]) → Below base w w' → AwayRow v' lo top → (∀ b, lo ≤ b → b < top → w'.heap[b]? = w.heap[b]?) → K (a.put o.dst v') w') :
    if Region.wanted o (yielded ops a.tmps) = true then Oper.wp P o a w K Q else E := by
  refine step_append_lies (w := w) hgd s x t ho base e i (.int .i64 0) 1 8 ht hi hz hsize hby rfl (by decide) v n xs hs hown ad 1 c [.int .i64 z] hx rfl ?_ ?_ (by decide) (by unfold maxLen; omega) (by omega) hbase w.heap.size rfl ?_
  · intro j u hu
    match j, hu with
    | 0, hu => simp at hu; subst hu; simpa [Addr.add] using hcell
    | j + 1, hu => simp at hu
  · intro u hu
    simp at hu
    subst hu
    rfl
  · intro g cap w' h1 h2 h3 _
    refine h _ w' h1 ((Below.refl base w).grown h2 hbase ?_) ?_ ?_
    · intro k hk
      rcases hown.2 with ⟨rfl, _⟩ | ⟨g, cap, cur, rfl, hg, _⟩
      · simp [Value.ownBlock] at hk
      · simp [Value.ownBlock] at hk
        omega
    · intro k hk
      have hgk : g = k := by simpa [Value.ownBlock] using hk
      subst hgk
      rcases h3 with h3 | h3
      · exact haw _ h3
      · omega
    · intro b hb1 hb2
      refine h2.block b (by omega) (fun hc => ?_)
      have := haw b hc.symm
      omega
/-- a store into a block of that range leaves the row as it is -/
theorem ownsRow_setFar {w : World} {base : Nat} {e : TypeId} {k : Nat} {v : Value} {n : Nat} {xs : List Value} {p : Addr} {u : Value} {lo top : Nat} (h : w.ownsRow base e k v n xs) (haw : AwayRow v lo top) (h1 : lo ≤ p.block) (h2 : p.block < top) :
    (w.setCell p u).ownsRow base e k v n xs := by
  obtain ⟨h0, h3⟩ := h
  refine ⟨h0, ?_⟩
  rcases h3 with h3 | ⟨g, cap, cur, a, b, c, d⟩
  · exact .inl h3
  · have hg : g < lo ∨ top ≤ g := haw g (by rw [a]; rfl)
    exact .inr ⟨g, cap, cur, a, b, (Below.heap_setCell w p u g (by omega)).trans c, d⟩
end Go.Proofs.Ytepibbjcmjabiaa
