/- Contracts: the pairs of dangers of one kind that are close: the program's and the reference's. -/
import Derived.Test.YtclcgckledbpfaaDangerD
import Derived.Test.YtclcgckledbpfaaPairRows
import Derived.Deep.AppendLies
namespace Go.Proofs.Ytclcgckledbpfaa
open Go.RowKit
theorem row_info : (Try.prog.info? 43).map (fun i => (i.zero, i.size, i.bytes)) = some (some (.slice none 0 0), 1, 24) := by kernel_rfl
def rowV (b : Nat) : Value := .slice (some ⟨b, 0, none⟩) 2 2
/-- a row of the call's own that grows: its elements' blocks and what they hold -/
def RowsAt (w : World) (base : Nat) (v : Value) (L : List (Int × Int)) (Bs : List Nat) : Prop :=
  Bs.length = L.length ∧ w.ownsRow base 43 1 v L.length (Bs.map rowV) ∧ (∀ i, i < L.length → base ≤ Bs.getD i 0 ∧ Blk w (Bs.getD i 0) 3 #[.int .i64 (L.getD i (0, 0)).1, .int .i64 (L.getD i (0, 0)).2]) ∧
    ∀ i j, i < L.length → j < L.length → Bs.getD i 0 = Bs.getD j 0 → i = j
def RowsIn (w : World) (base : Nat) (v : Value) (L : List (Int × Int)) : Prop := ∃ Bs, RowsAt w base v L Bs
theorem RowsIn.below {w w' : World} {base : Nat} {v : Value} {L : List (Int × Int)} (h : RowsIn w base v L) (hb : Below w.heap.size w w') : RowsIn w' base v L := by
  obtain ⟨Bs, h1, h2, h3, h4⟩ := h
  exact ⟨Bs, h1, ownsRow_below h2 hb, fun i hi => ⟨(h3 i hi).1, (h3 i hi).2.below hb (h3 i hi).2.lt⟩, h4⟩
theorem RowsIn.empty (w : World) : RowsIn (w.alloc (.cells #[] 43)) w.heap.size (.slice (some ⟨w.heap.size, 0, none⟩) 0 0) [] :=
  ⟨[], rfl, ownsRow_empty w _ 1, fun i hi => absurd hi (by simp), fun i j hi => absurd hi (by simp)⟩
theorem RowsIn.form {w : World} {base : Nat} {v : Value} {L : List (Int × Int)} (h : RowsIn w base v L) : ∃ A c, v = .slice A L.length c := by
  obtain ⟨Bs, h1, h2, h3, h4⟩ := h
  exact ownsRow_form h2
/-- the row's own block is none of its elements' -/
theorem RowsAt.apart {w : World} {base : Nat} {v : Value} {L : List (Int × Int)} {Bs : List Nat} (h : RowsAt w base v L Bs) {i b n c : Nat} (hi : i < L.length) (hv : v = .slice (some ⟨b, 0, none⟩) n c) : Bs.getD i 0 ≠ b := fun he => by
  obtain ⟨h1, h2, h3, h4⟩ := h
  rcases h2.2 with ⟨rfl, h0⟩ | ⟨g, cap, cur, h5, h6, h7, _⟩
  · cases hv
  · rw [hv] at h5
    injection h5 with e1 _ _
    injection e1 with e1
    injection e1 with e1 _ _
    subst e1
    have h8 := (h3 i hi).2
    unfold Blk at h8
    rw [he, h7] at h8
    simp at h8
theorem RowsIn.own {w : World} {base : Nat} {A : Option Addr} {n c : Nat} {L : List (Int × Int)} (hn : n = L.length) (h : RowsIn w base (.slice A n c) L) : OwnR w base A n (fun i => L.getD i (0, 0)) := fun hn0 => by
  subst hn
  obtain ⟨Bs, hA⟩ := h
  have h0 := hA
  obtain ⟨h1, h2, h3, h4⟩ := hA
  rcases h2.2 with ⟨_, h5⟩ | ⟨g, cap, cur, hv, hb, hh, hnc, _, hsz, htk⟩
  · omega
  · injection hv with hA' _ _
    subst hA'
    refine ⟨g, _, cur, fun i => Bs.getD i 0, rfl, hb, hh, fun i hi => ?_, fun i hi => ⟨(h3 i hi).1, h0.apart hi rfl, fun _ => ⟨_, _, _, rfl, (h3 i hi).1, (h3 i hi).2, by simp, fun a j ha hj => ?_⟩⟩, h4⟩
    · have e : (Bs.map rowV)[i]? = some (rowV (Bs.getD i 0)) := by
        rw [List.getElem?_map, List.getElem?_eq_getElem (by omega)]
        simp [List.getD, show i < Bs.length by omega]
      rw [← htk, List.getElem?_take_of_lt (by omega)] at e
      simpa [rowC, rowV] using e
    · obtain rfl : j = 0 := by omega
      have : a = 0 ∨ a = 1 := by omega
      rcases this with rfl | rfl <;> simp [two]
theorem getD_snoc {α : Type} (L : List α) (x d : α) (i : Nat) (h : i < L.length) : (L ++ [x]).getD i d = L.getD i d := by simp [List.getD, List.getElem?_append_left h]
theorem getD_last {α : Type} (L : List α) (x d : α) : (L ++ [x]).getD L.length d = x := by simp [List.getD]
/-- one more row: what an append gives -/
theorem RowsIn.snoc {w0 w w' : World} {base : Nat} {v v' : Value} {L : List (Int × Int)} {Bs : List Nat} {B : Nat} {y z : Int} (h : RowsAt w0 base v L Bs) (hb : Below w0.heap.size w0 w) (hB0 : w0.heap.size ≤ B) (hbase : base ≤ B) (hB : Blk w B 3 #[.int .i64 y, .int .i64 z])
    (h1 : w'.ownsRow base 43 1 v' (L.length + 1) (Bs.map rowV ++ [rowV B])) (h2 : w.grownBy w' v.ownBlock) : RowsIn w' base v' (L ++ [(y, z)]) := by
  have h0 := h
  obtain ⟨e1, e2, e3, e4⟩ := h
  have keep : ∀ g cs, Blk w g 3 cs → Blk w' g 3 cs := fun g cs hg => hg.grown h2 (fun he => by
    rcases e2.2 with ⟨rfl, _⟩ | ⟨g', cap, cur, rfl, _, hh, _⟩
    · simp [Value.ownBlock] at he
    · simp [Value.ownBlock] at he
      subst he
      have h7 := hb.block g (Blk.lt (t := 43) (cs := cur) hh)
      unfold Blk at hg
      rw [h7, hh] at hg
      simp at hg)
  refine ⟨Bs ++ [B], by simp [e1], ?_, fun i hi => ?_, fun i j hi hj he => ?_⟩
  · simpa using h1
  · rw [List.length_append, List.length_singleton] at hi
    rcases Nat.lt_or_ge i L.length with hl | hl
    · rw [getD_snoc _ _ _ _ hl, getD_snoc _ _ _ _ (by omega)]
      exact ⟨(e3 i hl).1, keep _ _ ((e3 i hl).2.below hb (e3 i hl).2.lt)⟩
    · obtain rfl : i = L.length := by omega
      rw [getD_last, ← e1, getD_last]
      exact ⟨hbase, keep _ _ hB⟩
  · rw [List.length_append, List.length_singleton] at hi hj
    rcases Nat.lt_or_ge i L.length with hl | hl <;> rcases Nat.lt_or_ge j L.length with hl2 | hl2
    · rw [getD_snoc _ _ _ _ (by omega), getD_snoc _ _ _ _ (by omega)] at he
      exact e4 i j hl hl2 he
    · obtain rfl : j = L.length := by omega
      rw [getD_snoc _ _ _ _ (by omega), ← e1, getD_last] at he
      have := (e3 i hl).2.lt
      omega
    · obtain rfl : i = L.length := by omega
      rw [getD_snoc Bs _ _ j (by omega), ← e1, getD_last] at he
      have := (e3 j hl2).2.lt
      omega
    · omega
theorem below_grown {w w' : World} {base : Nat} {e : TypeId} {v : Value} {n : Nat} {xs : List Value} (hown : w.ownsRow base e 1 v n xs) (h2 : w.grownBy w' v.ownBlock) (hbase : base ≤ w.heap.size) : Below base w w' :=
  (Below.refl base w).grown h2 hbase fun k hk => by
    rcases hown.2 with ⟨rfl, _⟩ | ⟨g, cap, cur, rfl, hg, _⟩
    · simp [Value.ownBlock] at hk
    · simp [Value.ownBlock] at hk
      omega
theorem keep_grown {w w' : World} {base : Nat} {v : Value} {n : Nat} {xs : List Value} (hown : w.ownsRow base 43 1 v n xs) (h2 : w.grownBy w' v.ownBlock) (g : Nat) (t : TypeId) (cs : Array Value) (ht : t ≠ 43) (hg : Blk w g t cs) : Blk w' g t cs :=
  hg.grown h2 (fun he => by
    rcases hown.2 with ⟨rfl, _⟩ | ⟨g', cap, cur, rfl, _, hh, _⟩
    · simp [Value.ownBlock] at he
    · simp [Value.ownBlock] at he
      subst he
      unfold Blk at hg
      rw [hh] at hg
      simp at hg
      exact ht hg.2.symm)
theorem wpList_append_row {P : Program} (w0 w : World) {ops : Array Oper} {rest : List Oper} {o : Oper} {a : Act} {Q : Exit → Act → World → Prop} (hgd : o.guard = none) (s x : Operand) (t : TypeId)
    (ho : o.op = .call { callee := .builtin .append, args := #[s, x], argTypes := #[t, t] })
    (base : Nat) (i : TypeInfo) (ht : P.underlying t = some (.slice 43)) (hi : P.info? 43 = some i) (hz : i.zero = some (.slice none 0 0)) (hsize : i.size = 1) (hby : i.bytes = 24)
    (v : Value) (L : List (Int × Int)) (hs : a.eval s = v) (hown : RowsIn w0 base v L) (hb : Below w0.heap.size w0 w) (B : Nat) (y z : Int) (hB0 : w0.heap.size ≤ B) (hB : Blk w B 3 #[.int .i64 y, .int .i64 z])
    (ad : Addr) (c : Nat) (hx : a.eval x = .slice (some ad) 1 c) (hcell : w.cell? ad = some (rowV B)) (hn : L.length ≤ 1048576) (hbase : base ≤ w0.heap.size)
    (h : ∀ v' w', RowsIn w' base v' (L ++ [(y, z)]) → Below base w w' → (∀ g t cs, t ≠ 43 → Blk w g t cs → Blk w' g t cs) → wpList P ops Q rest (a.put o.dst v') w') : wpList P ops Q (o :: rest) a w := by
  obtain ⟨Bs, hA⟩ := hown
  have hz' := hb.size
  have hown2 := ownsRow_below hA.2.1 hb
  refine wpList_append_own w hgd s x t ho base 43 i (.slice none 0 0) 1 24 ht hi hz hsize hby rfl (by decide) v L.length _ hs hown2 ad 1 c [rowV B] hx rfl ?_ ?_ (by unfold maxLen; omega) (by omega) (by omega) ?_
  · intro j u hu
    match j, hu with
    | 0, hu => simp at hu; subst hu; simpa [Addr.add] using hcell
    | j + 1, hu => simp at hu
  · intro u hu
    simp at hu
    subst hu
    rfl
  · intro v' w' h1 h2 _
    exact h v' w' (RowsIn.snoc hA hb hB0 (by omega) hB h1 h2) (below_grown hown2 h2 (by omega)) (keep_grown hown2 h2)
theorem step_append_row {P : Program} {w0 w : World} {ops : Array Oper} {o : Oper} {a : Act} {K : Act → World → Prop} {Q : Exit → Act → World → Prop} {E : Prop} (hgd : o.guard = none) (s x : Operand) (t : TypeId)
    (ho : o.op = .call { callee := .builtin .append, args := #[s, x], argTypes := #[t, t] })
    (base : Nat) (i : TypeInfo) (ht : P.underlying t = some (.slice 43)) (hi : P.info? 43 = some i) (hz : i.zero = some (.slice none 0 0)) (hsize : i.size = 1) (hby : i.bytes = 24)
    (v : Value) (L : List (Int × Int)) (hs : a.eval s = v) (hown : RowsIn w0 base v L) (hb : Below w0.heap.size w0 w) (B : Nat) (y z : Int) (hB0 : w0.heap.size ≤ B) (hB : Blk w B 3 #[.int .i64 y, .int .i64 z])
    (ad : Addr) (c : Nat) (hx : a.eval x = .slice (some ad) 1 c) (hcell : w.cell? ad = some (rowV B)) (hn : L.length ≤ 1048576) (hbase : base ≤ w0.heap.size)
    (h : ∀ v' w', RowsIn w' base v' (L ++ [(y, z)]) → Below base w w' → (∀ g t cs, t ≠ 43 → Blk w g t cs → Blk w' g t cs) → K (a.put o.dst v') w') :
    if Region.wanted o (yielded ops a.tmps) = true then Oper.wp P o a w K Q else E := by
  obtain ⟨Bs, hA⟩ := hown
  have hz' := hb.size
  have hown2 := ownsRow_below hA.2.1 hb
  refine step_append_lies (w := w) hgd s x t ho base 43 i (.slice none 0 0) 1 24 ht hi hz hsize hby rfl (by decide) v L.length _ hs hown2 ad 1 c [rowV B] hx rfl ?_ ?_ (by decide) (by unfold maxLen; omega) (by omega) (by omega) w.heap.size rfl ?_
  · intro j u hu
    match j, hu with
    | 0, hu => simp at hu; subst hu; simpa [Addr.add] using hcell
    | j + 1, hu => simp at hu
  · intro u hu
    simp at hu
    subst hu
    rfl
  · intro g cap w' h1 h2 _ _
    exact h _ w' (RowsIn.snoc hA hb hB0 (by omega) hB h1 h2) (below_grown hown2 h2 (by omega)) (keep_grown hown2 h2)
/-- a slice of rows of one's own, and a yes or no -/
def RowsOut (w : World) (L : List (Int × Int)) (ok : Bool) (e : Ending) (w' : World) : Prop :=
  ∃ A' c', e = .returned (.tuple #[.slice A' L.length c', .bool ok]) ∧ OwnR w' w.heap.size A' L.length (fun i => L.getD i (0, 0)) ∧ Below w.heap.size w w'
theorem RowsOut.row {w w' : World} {base : Nat} {A : Option Addr} {c : Nat} {L L' : List (Int × Int)} {ok ok' : Bool} (hO : RowsIn w' base (.slice A L'.length c) L') (hL : L = L') (hok : ok = ok') (hB : w.heap.size ≤ base) (hb : Below w.heap.size w w') :
    RowsOut w L ok (.returned (.tuple #[.slice A L'.length c, .bool ok'])) w' := by
  subst hL hok
  exact ⟨_, _, rfl, (RowsIn.own rfl hO).more hB, hb⟩
theorem RowsOut.none {w w' : World} {A : Option Addr} {c : Nat} {L : List (Int × Int)} {ok ok' : Bool} (hL : L = []) (hok : ok = ok') (hb : Below w.heap.size w w') : RowsOut w L ok (.returned (.tuple #[.slice A 0 c, .bool ok'])) w' := by
  subst hL hok
  exact ⟨_, _, rfl, fun h => absurd h (by simp), hb⟩
end Go.Proofs.Ytclcgckledbpfaa
