/- Two rows of the call's own side by side; one value appended; one element written; a list of strings sorted by the library. -/
import Derived.Test.YtfecepjdjikenaaStr
import Derived.Test.YtfecepjdjikenaaStepG
import Derived.Test.YtfecepjdjikenaaSortSt
namespace Go.Proofs.Ytfecepjdjikenaa
open Go.RowKit Go.Shelf Go.Sort
theorem str_info : (Try.prog.info? 9).map (fun i => (i.zero, i.size, i.bytes)) = some (some (.string ⟨#[]⟩), 1, 16) := by kernel_rfl
/-- rows of two kinds lie in two blocks -/
theorem rows_ne {w : World} {b b' : Nat} {e e' : TypeId} {k k' n n' : Nat} {v v' : Value} {xs xs' : List Value} (h : w.ownsRow b e k v n xs) (h' : w.ownsRow b' e' k' v' n' xs') (he : e ≠ e') {g : Nat} (hg : v.ownBlock = some g) : some g ≠ v'.ownBlock := by
  intro hg'
  rcases h.2 with ⟨rfl, _⟩ | ⟨q, cap, cur, rfl, _, hh, _⟩
  · simp [Value.ownBlock] at hg
  · have e1 : q = g := by simpa [Value.ownBlock] using hg
    subst e1
    rcases h'.2 with ⟨rfl, _⟩ | ⟨q', cap', cur', rfl, _, hh', _⟩
    · simp [Value.ownBlock] at hg'
    · have e2 : q = q' := by simpa [Value.ownBlock] using hg'
      subst e2
      rw [hh] at hh'
      injection hh' with hh'
      injection hh' with _ h3
      exact he h3
theorem ownsRow_same {w w' : World} {base : Nat} {e : TypeId} {k n : Nat} {v : Value} {xs : List Value} (h : w.ownsRow base e k v n xs) (hb : ∀ g, g < w.heap.size → v.ownBlock = some g → w'.heap[g]? = w.heap[g]?) : w'.ownsRow base e k v n xs := by
  obtain ⟨h1, h2⟩ := h
  refine ⟨h1, ?_⟩
  rcases h2 with h2 | ⟨g, cap, cur, rfl, b, c, d⟩
  · exact .inl h2
  · exact .inr ⟨g, cap, cur, rfl, b, (hb g (Array.getElem?_eq_some_iff.1 c).1 (by simp [Value.ownBlock])).trans c, d⟩
/-- a row of another kind stays when one row is written -/
theorem ownsRow_other {w w' : World} {b b' : Nat} {e e' : TypeId} {k k' n n' : Nat} {v v' : Value} {xs xs' : List Value} (h : w.ownsRow b e k v n xs) (h' : w.ownsRow b' e' k' v' n' xs') (he : e ≠ e') (hq : ∀ q, q < w.heap.size → some q ≠ v'.ownBlock → w'.heap[q]? = w.heap[q]?) : w'.ownsRow b e k v n xs :=
  ownsRow_same h (fun g hl hg => hq g hl (rows_ne h h' he hg))
theorem ownsRow_set {w : World} {base : Nat} {e : TypeId} {b n c k : Nat} {xs : List Value} {u : Value} (h : w.ownsRow base e 1 (.slice (some ⟨b, 0, none⟩) n c) n xs) (hk : k < n) : (w.setCell ⟨b, k, none⟩ u).ownsRow base e 1 (.slice (some ⟨b, 0, none⟩) n c) n (xs.set k u) := by
  obtain ⟨h1, h2⟩ := h
  refine ⟨by simpa using h1, ?_⟩
  rcases h2 with ⟨_, h0⟩ | ⟨g, cap, cur, hv, hb, hh, hnc, hmx, hsz, htk⟩
  · omega
  · injection hv with h3 h4 h5
    injection h3 with h3
    injection h3 with h3
    subst h3 h5
    refine .inr ⟨b, c, cur.setIfInBounds k u, rfl, hb, Blk.set_ hh k u, hnc, hmx, by simpa using hsz, ?_⟩
    rw [← htk, Array.toList_setIfInBounds, List.take_set]
/-- a row of another kind stays when one element of a row is written -/
theorem ownsRow_setOther {w : World} {b b' : Nat} {e e' : TypeId} {k k' n n' g c q : Nat} {v : Value} {xs xs' : List Value} {u : Value} (h : w.ownsRow b e k v n xs) (h' : w.ownsRow b' e' k' (.slice (some ⟨g, 0, none⟩) n' c) n' xs') (he : e ≠ e') : (w.setCell ⟨g, q, none⟩ u).ownsRow b e k v n xs :=
  ownsRow_same h (fun p _ hp => Below.heap_setCell w ⟨g, q, none⟩ u p (fun e1 => by
    have := rows_ne h h' he hp
    simp [Value.ownBlock] at this
    exact this e1))
theorem ownsRow_get {w : World} {base : Nat} {e : TypeId} {b n c k : Nat} {xs : List Value} {u : Value} (h : w.ownsRow base e 1 (.slice (some ⟨b, 0, none⟩) n c) n xs) (hk : k < n) (hu : xs[k]? = some u) : b < w.heap.size ∧ w.cell? ⟨b, k, none⟩ = some u ∧ ∀ i, w.frozen? ⟨b, i, none⟩ = false := by
  rcases h.2 with ⟨_, h0⟩ | ⟨g, cap, cur, hv, hb, hh, hnc, hmx, hsz, htk⟩
  · omega
  · injection hv with h3 h4 h5
    injection h3 with h3
    injection h3 with h3
    subst h3 h5
    have hB : Blk w b e cur := hh
    refine ⟨hB.lt, ?_, hB.frozen⟩
    rw [hB.cell, ← hu, ← htk, List.getElem?_take_of_lt (by omega)]
    simp
theorem ownsRow_lt {w : World} {base : Nat} {e : TypeId} {b n c : Nat} {xs : List Value} (h : w.ownsRow base e 1 (.slice (some ⟨b, 0, none⟩) n c) n xs) : base ≤ b ∧ b < w.heap.size ∧ n ≤ c ∧ c ≤ 9223372036854775807 := by
  rcases h.2 with ⟨hv, _⟩ | ⟨g, cap, cur, hv, hb, hh, hnc, hmx, _⟩
  · cases hv
  · injection hv with h1 h2 h3
    injection h1 with h1
    injection h1 with h1
    subst h1 h3
    simp only [maxLen] at hmx
    exact ⟨hb, (Array.getElem?_eq_some_iff.1 hh).1, hnc, by omega⟩
theorem ownsRow_pos {w : World} {base : Nat} {e : TypeId} {v : Value} {n : Nat} {xs : List Value} (h : w.ownsRow base e 1 v n xs) (hn : 0 < n) : ∃ b c, v = .slice (some ⟨b, 0, none⟩) n c := by
  rcases h.2 with ⟨_, h0⟩ | ⟨g, cap, cur, hv, _⟩
  · omega
  · exact ⟨g, cap, hv⟩
theorem own_base {w : World} {base base' : Nat} {e : TypeId} {v : Value} {n : Nat} {xs : List Value} (h : w.ownsRow base e 1 v n xs) (hb : base' ≤ base) : w.ownsRow base' e 1 v n xs :=
  ⟨h.1, h.2.imp id fun ⟨g, cap, cur, hv, hg, r⟩ => ⟨g, cap, cur, hv, Nat.le_trans hb hg, r⟩⟩
theorem ownT_of {w : World} {base : Nat} {e : TypeId} {A : Option Addr} {n c : Nat} {L : List (List UInt8)} (hn : n = L.length) (h : w.ownsRow base e 1 (.slice A n c) n (L.map strV)) : OwnT w base A n (fun i => L.getD i []) :=
  ownsRow_own h fun i j hi hj => by
    obtain rfl : j = 0 := by omega
    subst hn
    simp [List.getD, hi, strV]
/-- one value of one cell appended to a row of the call's own -/
theorem wpList_append_one {P : Program} (w : World) {ops : Array Oper} {rest : List Oper} {o : Oper} {a : Act} {Q : Exit → Act → World → Prop} (hgd : o.guard = none) (s x : Operand) (t : TypeId)
    (ho : o.op = .call { callee := .builtin .append, args := #[s, x], argTypes := #[t, t] })
    (base : Nat) (e : TypeId) (i : TypeInfo) (z : Value) (bytes : Nat) (ht : P.underlying t = some (.slice e)) (hi : P.info? e = some i) (hz : i.zero = some z) (hsize : i.size = 1) (hby : i.bytes = bytes) (hzs : z.cells.size = 1) (hbs : bytes ≤ 1000)
    (v : Value) (n : Nat) (xs : List Value) (hs : a.eval s = v) (hown : w.ownsRow base e 1 v n xs)
    (ad : Addr) (c : Nat) (u : Value) (hx : a.eval x = .slice (some ad) 1 c) (hcell : w.cell? ad = some u) (h1 : u.oneCell' = true) (hn : n + 1 ≤ 1048576) (hbase : base ≤ w.heap.size)
    (h : ∀ v' w', w'.ownsRow base e 1 v' (n + 1) (xs ++ [u]) → Below base w w' → (∀ q, q < w.heap.size → some q ≠ v.ownBlock → w'.heap[q]? = w.heap[q]?) → wpList P ops Q rest (a.put o.dst v') w') : wpList P ops Q (o :: rest) a w := by
  refine wpList_append_own w hgd s x t ho base e i z 1 bytes ht hi hz hsize hby hzs (by decide) v n xs hs hown ad 1 c [u] hx rfl ?_ ?_ (by unfold maxLen; omega) ?_ hbase ?_
  · intro j u' hu
    match j, hu with
    | 0, hu => simp at hu; subst hu; simpa [Addr.add] using hcell
    | j + 1, hu => simp at hu
  · intro u' hu
    simp at hu
    subst hu
    exact h1
  · exact Nat.le_trans (Nat.mul_le_mul hn hbs) (by decide)
  · intro v' w' h1 h2 _
    refine h v' w' h1 ((Below.refl base w).grown h2 hbase ?_) (fun q hq hne => h2.block q hq hne)
    intro k hk
    rcases hown.2 with ⟨rfl, _⟩ | ⟨g, cap, cur, rfl, hg, _⟩
    · simp [Value.ownBlock] at hk
    · simp [Value.ownBlock] at hk
      omega
theorem snocT {w : World} {base : Nat} {e : TypeId} {v : Value} {L : List (List UInt8)} {z : List UInt8} (h : w.ownsRow base e 1 v (L.length + 1) (L.map strV ++ [.string ⟨z.toArray⟩])) : w.ownsRow base e 1 v (L ++ [z]).length ((L ++ [z]).map strV) := by simpa [strV] using h
/-- names in the order of the library -/
def srtT (X : List (List UInt8)) : List (List UInt8) := X.mergeSort fun x y => decide (x ≤ y)
theorem srtT_perm (X : List (List UInt8)) : (srtT X).Perm X := List.mergeSort_perm X _
theorem srtT_len (X : List (List UInt8)) : (srtT X).length = X.length := (srtT_perm X).length_eq
theorem srtT_asc (X : List (List UInt8)) : ∀ p q (hp : p < (srtT X).length) (hq : q < (srtT X).length), p ≤ q → ¬ (srtT X)[q] < (srtT X)[p] := by
  intro p q hp hq hpq
  have h := List.pairwise_mergeSort (le := fun x y : List UInt8 => decide (x ≤ y)) (by intro a b c h1 h2; simp only [decide_eq_true_eq] at *; exact List.le_trans h1 h2) (by intro a b; simp only [Bool.or_eq_true, decide_eq_true_eq]; exact List.le_total a b) X
  rcases Nat.lt_or_ge p q with h1 | h1
  · have h2 := List.pairwise_iff_getElem.1 h p q hp hq h1
    simp only [decide_eq_true_eq] at h2
    exact List.not_lt.2 h2
  · obtain rfl : p = q := by omega
    exact List.lt_irrefl _
theorem sort_ownT (b c : Nat) (X : List (List UInt8)) (base : Nat) (w : World) (hO : w.ownsRow base 9 1 (.slice (some ⟨b, 0, none⟩) X.length c) X.length (X.map strV)) (hX : X.length ≤ 1000) :
    Calls Try.prog 82 #[.slice (some ⟨b, 0, none⟩) X.length c] w fun e w' => e = .returned (.tuple #[]) ∧ w'.ownsRow base 9 1 (.slice (some ⟨b, 0, none⟩) (srtT X).length c) (srtT X).length ((srtT X).map strV) ∧ Below base w w' := by
  rw [srtT_len]
  have h2 := hO.2
  rcases h2 with ⟨hv, _⟩ | ⟨g, cap, cur, hv, hg, hh, hnc, hmx, hsz, htk⟩
  · cases hv
  · injection hv with h3 h4 h5
    injection h3 with h3
    injection h3 with h3
    subst h3 h5
    rw [Nat.mul_one] at htk
    have h1 := sortS_any b 0 c X w (holds_of_block hh htk) ((Array.getElem?_eq_some_iff.1 hh).1) (by omega)
    refine h1.mono ?_
    rintro e w' ⟨rfl, q, os, rfl⟩
    have hgl := (Array.getElem?_eq_some_iff.1 hh).1
    refine ⟨rfl, ownsRow_sorted (srtT_len X) hg hh hnc hmx hsz, (Below.refl base w).grown (grownBy_sorted _) (by omega) ?_⟩
    intro k hk
    injection hk with hk
    omega
end Go.Proofs.Ytfecepjdjikenaa
