/- Lists of Dangers: how they read in memory; the law's helpers on them: size, copy, equality, marks. -/
import Derived.Test.YtclcgckledbpfaaDoorMem
import Derived.Test.YtclcgckledbpfaaDoorBase
namespace Go.Proofs.YtclcgckledbpfaaDoor
open Go.RowKit
/-- a Danger's numbers -/
structure DG where
  id : Int
  kind : Int
  x : Int
  y : Int
  least : Int
  quality : Int
  seen : Int
def DG.cell (s : DG) : Nat → Value
  | 0 => .int .i64 s.id
  | 1 => .int .i64 s.kind
  | 2 => .int .i64 s.x
  | 3 => .int .i64 s.y
  | 4 => .int .i64 s.least
  | 5 => .int .i64 s.quality
  | _ => .int .i64 s.seen
def DG.arr (s : DG) : Array Value := #[.int .i64 s.id, .int .i64 s.kind, .int .i64 s.x, .int .i64 s.y, .int .i64 s.least, .int .i64 s.quality, .int .i64 s.seen]
def SlDG (w : World) (A : Option Addr) (n : Nat) (f : Nat → DG) : Prop := Sl w 7 A n (fun i j => (f i).cell j)
theorem SlDG.at {w wr : World} {A : Option Addr} {n k : Nat} {f : Nat → DG} (hS : SlDG w A n f) (hb : Below w.heap.size w wr) (hk : k < n) : ∃ b off, A = some ⟨b, off, none⟩ ∧ b < w.heap.size ∧ b < wr.heap.size ∧
    wr.cell? ⟨b, off + k * 7, none⟩ = some (.int .i64 (f k).id) ∧ wr.cell? ⟨b, off + k * 7 + 1, none⟩ = some (.int .i64 (f k).kind) ∧ wr.cell? ⟨b, off + k * 7 + 2, none⟩ = some (.int .i64 (f k).x) ∧ wr.cell? ⟨b, off + k * 7 + 3, none⟩ = some (.int .i64 (f k).y) ∧ wr.cell? ⟨b, off + k * 7 + 4, none⟩ = some (.int .i64 (f k).least) ∧ wr.cell? ⟨b, off + k * 7 + 5, none⟩ = some (.int .i64 (f k).quality) ∧ wr.cell? ⟨b, off + k * 7 + 6, none⟩ = some (.int .i64 (f k).seen) ∧ Hid (∀ m j, m < n → j < 7 → wr.cell? ⟨b, off + m * 7 + j, none⟩ = some ((f m).cell j)) := by
  obtain ⟨b, off, hA, hbl, hc⟩ := hS (by omega)
  have hz := hb.size
  exact ⟨b, off, hA, hbl, by omega, (hb.cell (p := ⟨b, _, none⟩) hbl).trans (hc k 0 hk (by decide)), (hb.cell (p := ⟨b, _, none⟩) hbl).trans (hc k 1 hk (by decide)), (hb.cell (p := ⟨b, _, none⟩) hbl).trans (hc k 2 hk (by decide)), (hb.cell (p := ⟨b, _, none⟩) hbl).trans (hc k 3 hk (by decide)), (hb.cell (p := ⟨b, _, none⟩) hbl).trans (hc k 4 hk (by decide)), (hb.cell (p := ⟨b, _, none⟩) hbl).trans (hc k 5 hk (by decide)), (hb.cell (p := ⟨b, _, none⟩) hbl).trans (hc k 6 hk (by decide)), fun m j hm hj => (hb.cell (p := ⟨b, _, none⟩) hbl).trans (hc m j hm hj)⟩
theorem BlkDG.cells {w : World} {g : Nat} {t : TypeId} {s : DG} (h : Blk w g t s.arr) : g < w.heap.size ∧ w.cell? ⟨g, 0, none⟩ = some (.int .i64 s.id) ∧ w.cell? ⟨g, 1, none⟩ = some (.int .i64 s.kind) ∧ w.cell? ⟨g, 2, none⟩ = some (.int .i64 s.x) ∧ w.cell? ⟨g, 3, none⟩ = some (.int .i64 s.y) ∧ w.cell? ⟨g, 4, none⟩ = some (.int .i64 s.least) ∧ w.cell? ⟨g, 5, none⟩ = some (.int .i64 s.quality) ∧ w.cell? ⟨g, 6, none⟩ = some (.int .i64 s.seen) ∧ (∀ i, w.frozen? ⟨g, i, none⟩ = false) :=
  ⟨h.lt, h.cell 0, h.cell 1, h.cell 2, h.cell 3, h.cell 4, h.cell 5, h.cell 6, h.frozen⟩
theorem toDanger_any (s : DG) (w : World) : Calls Tryd.prog 6 #[.agg #[.int .i64 s.id, .int .i64 s.kind, .int .i64 s.x, .int .i64 s.y, .int .i64 s.least, .int .i64 s.quality, .int .i64 s.seen]] w fun e w' => e = .returned (.agg #[.int .i64 s.id, .int .i64 s.kind, .int .i64 s.x, .int .i64 s.y, .int .i64 s.least, .int .i64 s.quality, .int .i64 s.seen]) ∧ Below w.heap.size w w' := by
  go_enter Tryd.func6, Tryd.ntmps6
  go_wp2_with (go_at_call 28; refine (toSpot_any _ _ _).mono ?_; rintro e w' ⟨rfl, rfl⟩)
  go_returns
  exact ⟨rfl, by repeat' (first | (with_reducible exact Below.refl _ _) | (with_reducible assumption) | (with_reducible refine Below.alloc ?_ ?_ _) | (with_reducible refine Below.drew ?_) | (with_reducible refine Below.setCell ?_ ?_ _) | (with_reducible refine Below.stepB (by assumption) ?_ ?_) | go_size)⟩
theorem info_Danger : (Tryd.prog.info? 30).map (fun i => (i.zero, i.size, i.bytes)) = some (some (.agg #[.int .i64 0, .int .i64 0, .int .i64 0, .int .i64 0, .int .i64 0, .int .i64 0, .int .i64 0]), 7, 56) := by kernel_rfl
/-- the first k elements are written -/
def FilledDG (cs : Array Value) (f : Nat → DG) (n k : Nat) : Prop := cs.size = n * 7 ∧ ∀ i j, i < k → j < 7 → cs[i * 7 + j]? = some ((f i).cell j)
theorem FilledDG.step {cs : Array Value} {f : Nat → DG} {n k : Nat} (h : FilledDG cs f n k) (hk : k < n) :
    FilledDG ((((((((cs).setIfInBounds (k * 7) (.int .i64 (f k).id)).setIfInBounds (k * 7 + 1) (.int .i64 (f k).kind)).setIfInBounds (k * 7 + 2) (.int .i64 (f k).x)).setIfInBounds (k * 7 + 3) (.int .i64 (f k).y)).setIfInBounds (k * 7 + 4) (.int .i64 (f k).least)).setIfInBounds (k * 7 + 5) (.int .i64 (f k).quality)).setIfInBounds (k * 7 + 6) (.int .i64 (f k).seen)) f n (k + 1) := by
  obtain ⟨hs, hc⟩ := h
  refine ⟨by simpa using hs, fun i j hi hj => ?_⟩
  simp only [Array.getElem?_setIfInBounds, Array.size_setIfInBounds]
  rcases Nat.lt_or_ge i k with h1 | h1
  · rw [if_neg (by omega), if_neg (by omega), if_neg (by omega), if_neg (by omega), if_neg (by omega), if_neg (by omega), if_neg (by omega)]
    exact hc i j h1 hj
  · obtain rfl : i = k := by omega
    have : j = 0 ∨ j = 1 ∨ j = 2 ∨ j = 3 ∨ j = 4 ∨ j = 5 ∨ j = 6 := by omega
    rcases this with rfl | rfl | rfl | rfl | rfl | rfl | rfl <;> simp [DG.cell, hs] <;> omega
end Go.Proofs.YtclcgckledbpfaaDoor
