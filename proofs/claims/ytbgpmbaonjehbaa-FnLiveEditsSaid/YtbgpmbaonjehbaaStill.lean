/- A region whose reads come first and whose stores stand in one forced order; what stays as it was behind a call that only makes memory. -/
import Derived.Test.YtbgpmbaonjehbaaMem
import Derived.StillTailTactics
import Derived.Deep.RegionHeld3
namespace Go.Proofs.Ytbgpmbaonjehbaa
open Go.RowKit
/-- A region that draws its order: operations that only read come first, then a tail in one forced order. -/
theorem wp_region_tail {P : Program} {id : Nat} {Q : Exit → Act → World → Prop} {a : Act} {w : World} {l : List Oper} (n : Nat) (hm : P.follows .mixedOrders = true) (hB : Region.lexTailB .any l.toArray n = true)
    (h : wpStill P l.toArray w.drew (fun a' => wpList P l.toArray Q (l.drop n) a' w.drew) (l.take n) a) : (Code.region id l.toArray true).wp P Q a w := wp_region_still_tail n hm hB h
theorem Kept.laterB {w w' w2 : World} {A : Option Addr} {n : Nat} (h : Kept w w' A n) (hb : Below w'.heap.size w' w2) : Kept w w2 A n :=
  ⟨hb.os.trans h.os, hb.tape.trans h.tape, hb.output.trans h.output, Nat.le_trans h.size hb.size, fun b hbl hne => (hb.block b (by have := h.size; omega)).trans (h.block b hbl hne)⟩
theorem Kept.drew {w w' : World} {A : Option Addr} {n : Nat} (h : Kept w w' A n) : Kept w w'.drew A n := h.laterB (Below.drew (Below.refl _ _))
theorem Own.drew {w : World} {lo k n : Nat} {A : Option Addr} {g : Nat → Nat → Value} (h : Own w lo k A n g) : Own w.drew lo k A n g := h.below (Below.drew (Below.refl _ _))
theorem Own.allocd {w : World} {lo k n : Nat} {A : Option Addr} {g : Nat → Nat → Value} (h : Own w lo k A n g) (o : Obj) : Own (w.alloc o) lo k A n g := fun hn => by
  obtain ⟨b, t, cs, hA, hl, hB, hs, hc⟩ := h hn
  exact ⟨b, t, cs, hA, hl, hB.alloc o, hs, hc⟩
end Go.Proofs.Ytbgpmbaonjehbaa
