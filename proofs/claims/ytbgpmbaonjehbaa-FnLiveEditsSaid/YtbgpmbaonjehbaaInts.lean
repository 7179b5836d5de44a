/- The law's helpers on slices of integers: equality, marks. -/
import Derived.Test.YtbgpmbaonjehbaaMem
namespace Go.Proofs.Ytbgpmbaonjehbaa
open Go.RowKit

/-- a slice of integers reads as L -/
def SlI (w : World) (A : Option Addr) (n : Nat) (L : Nat → Int) : Prop := Sl w 1 A n (fun i _ => .int .i64 (L i))
def OwnI (w : World) (lo : Nat) (A : Option Addr) (n : Nat) (L : Nat → Int) : Prop := Own w lo 1 A n (fun i _ => .int .i64 (L i))
theorem SlI.at {w wr : World} {A : Option Addr} {n k : Nat} {L : Nat → Int} (hS : SlI w A n L) (hb : Below w.heap.size w wr) (hk : k < n) : ∃ b off, A = some ⟨b, off, none⟩ ∧ b < w.heap.size ∧ b < wr.heap.size ∧
    wr.cell? ⟨b, off + k, none⟩ = some (.int .i64 (L k)) := by
  obtain ⟨b, off, hA, hbl, hc⟩ := hS (by omega)
  have hz := hb.size
  refine ⟨b, off, hA, hbl, by omega, (hb.cell (p := ⟨b, _, none⟩) hbl).trans ?_⟩
  have := hc k 0 hk (by decide)
  simpa using this
/-- what the call owns stays owned behind a call that leaves alone what there is -/
theorem ownsRow_below {w w' : World} {base : Nat} {e : TypeId} {size : Nat} {v : Value} {n : Nat} {xs : List Value} (h : w.ownsRow base e size v n xs) (hb : Below w.heap.size w w') : w'.ownsRow base e size v n xs := by
  obtain ⟨h1, h2⟩ := h
  refine ⟨h1, ?_⟩
  rcases h2 with h2 | ⟨g, cap, cur, a, b, c, d⟩
  · exact .inl h2
  · have hg : g < w.heap.size := Blk.lt (t := e) (cs := cur) c
    exact .inr ⟨g, cap, cur, a, b, (hb.block g hg).trans c, d⟩
theorem ownsRow_empty (w : World) (e : TypeId) (size : Nat) : (w.alloc (.cells #[] e)).ownsRow w.heap.size e size (.slice (some ⟨w.heap.size, 0, none⟩) 0 0) 0 [] :=
  ⟨by simp, .inr ⟨w.heap.size, 0, #[], rfl, Nat.le_refl _, heap_alloc_new w _, Nat.le_refl _, Nat.zero_le _, by simp, by simp⟩⟩
theorem ownsRow_form {w : World} {base : Nat} {e : TypeId} {size : Nat} {v : Value} {n : Nat} {xs : List Value} (h : w.ownsRow base e size v n xs) : ∃ A c, v = .slice A n c := by
  rcases h.2 with ⟨rfl, rfl⟩ | ⟨g, cap, cur, rfl, _⟩
  · exact ⟨none, 0, rfl⟩
  · exact ⟨_, cap, rfl⟩
theorem ownsRow_own {w : World} {base : Nat} {e : TypeId} {k : Nat} {A : Option Addr} {n c : Nat} {xs : List Value} {g : Nat → Nat → Value} (h : w.ownsRow base e k (.slice A n c) n xs) (hg : ∀ i j, i < n → j < k → xs[i * k + j]? = some (g i j)) : Own w base k A n g := fun hn => by
  rcases h.2 with ⟨_, h0⟩ | ⟨b, cap, cur, hv, hb, hh, hnc, _, hsz, htk⟩
  · omega
  · injection hv with hA _ _
    have hle : n * k ≤ cur.size := by rw [hsz]; exact Nat.mul_le_mul_right _ hnc
    refine ⟨b, e, cur, hA, hb, hh, hle, fun i j hi hj => ?_⟩
    have hlt : i * k + j < n * k := by
      have : (i + 1) * k ≤ n * k := Nat.mul_le_mul_right _ hi
      rw [Nat.add_mul] at this
      omega
    have h1 := hg i j hi hj
    rw [← htk, List.getElem?_take_of_lt hlt] at h1
    simpa using h1
theorem ownI_of {w : World} {base : Nat} {e : TypeId} {A : Option Addr} {n c : Nat} {L : List Int} (hn : n = L.length) (h : w.ownsRow base e 1 (.slice A n c) n (L.map (Value.int .i64))) : OwnI w base A n (fun i => L.getD i 0) :=
  ownsRow_own h fun i j hi hj => by
    obtain rfl : j = 0 := by omega
    subst hn
    simp [List.getD, hi]
theorem owns_snoc {w : World} {base : Nat} {e : TypeId} {v : Value} {L : List Int} {z : Int} (h : w.ownsRow base e 1 v (L.length + 1) (L.map (Value.int .i64) ++ [.int .i64 z])) : w.ownsRow base e 1 v (L ++ [z]).length ((L ++ [z]).map (Value.int .i64)) := by simpa using h
/-- one integer appended to a row of the call's own -/
theorem wpList_append_int1 {P : Program} (w : World) {ops : Array Oper} {rest : List Oper} {o : Oper} {a : Act} {Q : Exit → Act → World → Prop} (hgd : o.guard = none) (s x : Operand) (t : TypeId)
    (ho : o.op = .call { callee := .builtin .append, args := #[s, x], argTypes := #[t, t] })
    (base : Nat) (e : TypeId) (i : TypeInfo) (ht : P.underlying t = some (.slice e)) (hi : P.info? e = some i) (hz : i.zero = some (.int .i64 0)) (hsize : i.size = 1) (hby : i.bytes = 8)
    (v : Value) (n : Nat) (xs : List Value) (hs : a.eval s = v) (hown : w.ownsRow base e 1 v n xs)
    (ad : Addr) (c : Nat) (z : Int) (hx : a.eval x = .slice (some ad) 1 c) (hcell : w.cell? ad = some (.int .i64 z)) (hn : n ≤ 1048576) (hbase : base ≤ w.heap.size)
    (h : ∀ v' w', w'.ownsRow base e 1 v' (n + 1) (xs ++ [.int .i64 z]) → Below base w w' → wpList P ops Q rest (a.put o.dst v') w') : wpList P ops Q (o :: rest) a w := by
  refine wpList_append_own w hgd s x t ho base e i (.int .i64 0) 1 8 ht hi hz hsize hby rfl (by decide) v n xs hs hown ad 1 c [.int .i64 z] hx rfl ?_ ?_ (by unfold maxLen; omega) (by omega) hbase ?_
  · intro j u hu
    match j, hu with
    | 0, hu => simp at hu; subst hu; simpa [Addr.add] using hcell
    | j + 1, hu => simp at hu
  · intro u hu
    simp at hu
    subst hu
    rfl
  · intro v' w' h1 h2 _
    refine h v' w' h1 ((Below.refl base w).grown h2 hbase ?_)
    intro k hk
    rcases hown.2 with ⟨rfl, _⟩ | ⟨g, cap, cur, rfl, hg, _⟩
    · simp [Value.ownBlock] at hk
    · simp [Value.ownBlock] at hk
      omega
end Go.Proofs.Ytbgpmbaonjehbaa
