/- Contracts of the small functions on numbers and spots: what each returns, for all arguments. -/
import Derived.Test.YtbgpmbaonjehbaaProg
import Derived.WalkKit
import Derived.ProofKit
import Derived.OpenShut
import Derived.Handy
import Derived.WalkLawsBesides
import Derived.WalkSpells
import Derived.Lib.Hide
import Derived.Deep.QuietTactic
import Derived.BigQuiet
namespace Go.Proofs.Ytbgpmbaonjehbaa
open Go.RowKit

/-- a number lies in a range -/
def inB (n lo hi : Int) : Bool := decide (lo ≤ n ∧ n ≤ hi)
theorem inB_true {n lo hi : Int} (h1 : lo ≤ n) (h2 : n ≤ hi) : inB n lo hi = true := by simp [inB, h1, h2]
theorem inB_lo {n lo hi : Int} (h1 : n < lo) : inB n lo hi = false := by simp [inB]; omega
theorem inB_iff {n lo hi : Int} : inB n lo hi = true ↔ lo ≤ n ∧ n ≤ hi := by simp [inB]
def spotB (x y : Int) : Bool := inB x 0 1000 && inB y 0 1000
theorem spotB_iff {x y : Int} : spotB x y = true ↔ (0 ≤ x ∧ x ≤ 1000) ∧ (0 ≤ y ∧ y ≤ 1000) := by simp [spotB, inB]
theorem ret_bool {a b : Bool} (h : a = b) : Ending.returned (.bool a) = .returned (.bool b) := by rw [h]
theorem ret_int {a b : Int} (h : a = b) : Ending.returned (.int .i64 a) = .returned (.int .i64 b) := by rw [h]
theorem bcell {W w1 : World} (hb : Below W.heap.size W w1) : (∀ b o, b < W.heap.size → w1.cell? ⟨b, o, none⟩ = W.cell? ⟨b, o, none⟩) ∧ (∀ b o, b < W.heap.size → w1.frozen? ⟨b, o, none⟩ = W.frozen? ⟨b, o, none⟩) :=
  ⟨fun b o h => hb.cell (p := ⟨b, o, none⟩) h, fun b o h => hb.frozen (p := ⟨b, o, none⟩) h⟩
/-- what a call that leaves the old memory alone gives: the heap's size, the old cells, the old marks -/
theorem bfacts {W w1 : World} (hb : Below W.heap.size W w1) : W.heap.size ≤ w1.heap.size ∧ (∀ b o, b < W.heap.size → w1.cell? ⟨b, o, none⟩ = W.cell? ⟨b, o, none⟩) ∧ (∀ b o, b < W.heap.size → w1.frozen? ⟨b, o, none⟩ = W.frozen? ⟨b, o, none⟩) :=
  ⟨hb.size, fun b o h => hb.cell (p := ⟨b, o, none⟩) h, fun b o h => hb.frozen (p := ⟨b, o, none⟩) h⟩
theorem Below.step {B : Nat} {W W' w1 : World} (hb : Below W'.heap.size W' w1) (h : Below B W W') (hB : B ≤ W'.heap.size) : Below B W w1 := h.trans (hb.mono hB)
theorem Below.stepB {B B' : Nat} {W W' w1 : World} (hb : Below B' W' w1) (h : Below B W W') (hB : B ≤ B') : Below B W w1 := h.trans (hb.mono hB)
theorem i64_id {n : Int} (h1 : -9223372036854775808 ≤ n) (h2 : n ≤ 9223372036854775807) : wrap64 n = n := IntWalk.wrap64_in n ⟨h1, h2⟩
/-- A slice of elements of k cells each reads as g. -/
def Sl (w : World) (k : Nat) (A : Option Addr) (n : Nat) (g : Nat → Nat → Value) : Prop :=
  0 < n → ∃ b off, A = some ⟨b, off, none⟩ ∧ b < w.heap.size ∧ ∀ i j, i < n → j < k → w.cell? ⟨b, off + i * k + j, none⟩ = some (g i j)
theorem Sl.below {w w' : World} {k n : Nat} {A : Option Addr} {g : Nat → Nat → Value} (h : Sl w k A n g) (hb : Below w.heap.size w w') : Sl w' k A n g := fun hn => by
  obtain ⟨b, off, hA, hbl, hc⟩ := h hn
  have := hb.size
  exact ⟨b, off, hA, by omega, fun i j hi hj => (hb.cell (p := ⟨b, _, none⟩) hbl).trans (hc i j hi hj)⟩
/-- block g is just the cells cs of element type t, none frozen -/
def Blk (w : World) (g : Nat) (t : TypeId) (cs : Array Value) : Prop := w.heap[g]? = some (.cells cs t (0, 0))
section
variable {w w' : World} {g : Nat} {t : TypeId} {cs : Array Value}
theorem Blk.lt (h : Blk w g t cs) : g < w.heap.size := by
  rcases Nat.lt_or_ge g w.heap.size with hlt | hge
  · exact hlt
  · unfold Blk at h; rw [Array.getElem?_eq_none hge] at h; cases h
theorem Blk.cell (h : Blk w g t cs) (i : Nat) : w.cell? ⟨g, i, none⟩ = cs[i]? := cell_of_row w g i cs t (0, 0) h
theorem Blk.frozen (h : Blk w g t cs) (i : Nat) : w.frozen? ⟨g, i, none⟩ = false := by
  unfold Blk at h
  simp [World.frozen?, h]
theorem Blk.new (w : World) (t : TypeId) (cs : Array Value) : Blk (w.alloc (.cells cs t)) w.heap.size t cs := heap_alloc_new w _
theorem Blk.two {x y : Value} (h : Blk w g t #[x, y]) : g < w.heap.size ∧ w.cell? ⟨g, 0, none⟩ = some x ∧ w.cell? ⟨g, 1, none⟩ = some y := ⟨h.lt, h.cell 0, h.cell 1⟩
theorem Blk.drew (h : Blk w g t cs) : Blk w.drew g t cs := h
theorem Blk.alloc (h : Blk w g t cs) (o : Obj) : Blk (w.alloc o) g t cs := (Below.heap_alloc w o g h.lt).trans h
theorem Blk.set_ (h : Blk w g t cs) (i : Nat) (u : Value) : Blk (w.setCell ⟨g, i, none⟩ u) g t (cs.setIfInBounds i u) := by
  unfold Blk at h ⊢
  simp [World.setCell, Array.getElem?_modify, h]
theorem Blk.far (h : Blk w g t cs) {p : Addr} (hp : g ≠ p.block) (u : Value) : Blk (w.setCell p u) g t cs := (Below.heap_setCell w p u g hp).trans h
theorem Blk.below {B : Nat} (h : Blk w g t cs) (hb : Below B w w') (hg : g < B) : Blk w' g t cs := (hb.block g hg).trans h
theorem Blk.grown {row : Option Nat} (h : Blk w g t cs) (hb : w.grownBy w' row) (hg : some g ≠ row) : Blk w' g t cs := (hb.block g h.lt hg).trans h
end
/-- a row of the call's own, from block lo on, of n elements of k cells: it reads as g and may be written -/
def Own (w : World) (lo : Nat) (k : Nat) (A : Option Addr) (n : Nat) (g : Nat → Nat → Value) : Prop :=
  0 < n → ∃ (b : Nat) (t : TypeId) (cs : Array Value), A = some ⟨b, 0, none⟩ ∧ lo ≤ b ∧ Blk w b t cs ∧ n * k ≤ cs.size ∧ ∀ i j, i < n → j < k → cs[i * k + j]? = some (g i j)
theorem Own.sl {w : World} {lo k n : Nat} {A : Option Addr} {g : Nat → Nat → Value} (h : Own w lo k A n g) : Sl w k A n g := fun hn => by
  obtain ⟨b, t, cs, hA, _, hB, _, hc⟩ := h hn
  exact ⟨b, 0, hA, hB.lt, fun i j hi hj => by rw [hB.cell, Nat.zero_add]; exact hc i j hi hj⟩
theorem Own.below {w w' : World} {lo k n : Nat} {A : Option Addr} {g : Nat → Nat → Value} (h : Own w lo k A n g) (hb : Below w.heap.size w w') : Own w' lo k A n g := fun hn => by
  obtain ⟨b, t, cs, hA, hl, hB, hs, hc⟩ := h hn
  exact ⟨b, t, cs, hA, hl, hB.below hb hB.lt, hs, hc⟩
theorem run_make_rowN {P : Program} (t e : TypeId) (i : TypeInfo) (z : Value) (ht : P.underlying t = some (.slice e)) (hi : P.info? e = some i) (hz : i.zero = some z)
    (kl kc : IntKind) (n c : Nat) (hnc : n ≤ c) (hbytes : i.bytes * c ≤ 281474976710656) (h63 : c ≤ 9223372036854775807) (w : World) :
    (Instr.makeSlice t (.int kl (n : Int)) (.int kc (c : Int))).run P w = .ok (.slice (some ⟨w.heap.size, 0, none⟩) n c) (w.alloc (.cells (madeCells z.cells (c * i.size)) e)) := by
  have hb : (i.bytes : Int) * (c : Int) ≤ 281474976710656 := by
    have h : ((i.bytes * c : Nat) : Int) ≤ 281474976710656 := by omega
    rwa [Int.natCast_mul] at h
  have hr := run_make (P := P) w t e i z ht hi hz kl kc n c (by omega) (by omega) hb (by omega)
  simp only [Int.toNat_natCast] at hr
  exact hr
/-- the worlds in which all that lies in W stands as it is -/
def Later (W : World) : Type := { x : World // Below W.heap.size W x }
def Later.w {W : World} (x : Later W) : World := x.1
instance (W : World) : Nonempty (Later W) := ⟨⟨W, Below.refl _ _⟩⟩
theorem Later.below {W : World} (x : Later W) : Below W.heap.size W x.w := x.2
theorem Later.same {P : Program} {f : FuncId} {args : Array Value} {v : Value} {W : World} {x : Later W} (h : Calls P f args x.w fun e w' => e = .returned v ∧ x.w = w') :
    Calls P f args x.w fun e w'' => e = .returned v ∧ ∃ y : Later W, w'' = y.w :=
  h.mono fun _ _ ⟨he, hw⟩ => ⟨he, x, hw.symm⟩
theorem Later.call {P : Program} {f : FuncId} {args : Array Value} {v : Value} {W : World} {x : Later W} (h : Calls P f args x.w fun e w' => e = .returned v ∧ Below x.w.heap.size x.w w') :
    Calls P f args x.w fun e w'' => e = .returned v ∧ ∃ y : Later W, w'' = y.w :=
  h.mono fun _ _ ⟨he, hb⟩ => ⟨he, ⟨_, x.below.trans (hb.mono x.below.size)⟩, rfl⟩
theorem Later.old {W0 W : World} {B : Nat} (x : Later W) (h : Below B W0 W) (hB : B ≤ W.heap.size) : Below B W0 x.w := h.trans (x.below.mono hB)
/-- A region that draws its order, whose operations read and whose callees leave alone what there is: one walk in the order of the text. -/
theorem wp_region_later {P : Program} {id : Nat} {Q : Exit → Act → World → Prop} {a : Act} {W : World} {l : List Oper} (hm : P.follows .mixedOrders = true) (hB : Region.lexB .any l.toArray = true)
    (h : (∀ (x : Later W) b o, b < W.heap.size → x.w.cell? ⟨b, o, none⟩ = W.cell? ⟨b, o, none⟩) →
      wpQuiet P l.toArray (fun w' => ∃ x : Later W, w' = x.w) (fun a' => ∀ w', Below W.heap.size W w' → Q .normal a' w') l a) : (Code.region id l.toArray true).wp P Q a W := by
  refine wp_region_quiet (C := fun w' => ∃ x : Later W, w' = x.w) hm hB ⟨⟨_, (Below.refl _ _).drew⟩, rfl⟩ ?_
  have h1 := h (fun x b o hb => x.below.cell (p := ⟨b, o, none⟩) hb)
  have h2 : (fun a' => ∀ w', Below W.heap.size W w' → Q .normal a' w') = (fun a' => ∀ w', (∃ x : Later W, w' = x.w) → Q .normal a' w') := by
    funext a'
    exact propext ⟨fun hh w' ⟨x, hx⟩ => by subst hx; exact hh _ x.below, fun hh w' hw' => hh w' ⟨⟨w', hw'⟩, rfl⟩⟩
  rw [h2] at h1
  exact h1

theorem results_tmp4 {fn : Func} {t u v x : Tmp} (h : fn.results = #[.tmp t, .tmp u, .tmp v, .tmp x]) (tmps : Array Value) (P : Program) (w : World) :
    (results fn tmps).run P w = .ok (.tuple #[tmps.getD t undef, tmps.getD u undef, tmps.getD v undef, tmps.getD x undef]) w := by simp [results, h]

theorem inside_any (n lo hi : Int) (w : World) : Calls Try.prog 44 #[.int .i64 n, .int .i64 lo, .int .i64 hi] w fun e w' => e = .returned (.bool (inB n lo hi)) ∧ w = w' := by
  go_enter Try.func44, Try.ntmps44
  go_wp2
  all_goals go_ret
  all_goals refine ⟨ret_bool ?_, rfl⟩
  · rename_i h; simp [inB, h]
  · rename_i h; exact (inB_lo h).symm
theorem l1In_any (n lo hi : Int) (w : World) : Calls Try.prog 47 #[.int .i64 n, .int .i64 lo, .int .i64 hi] w fun e w' => e = .returned (.bool (inB n lo hi)) ∧ w = w' := by
  go_enter Try.func47, Try.ntmps47
  go_wp2
  all_goals go_ret
  all_goals refine ⟨ret_bool ?_, rfl⟩
  · rename_i h; simp [inB, h]
  · rename_i h; exact (inB_lo h).symm
end Go.Proofs.Ytbgpmbaonjehbaa
