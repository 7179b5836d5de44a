/- What the functions return that build a list of numbers. -/
import Derived.Test.YtclcgckledbpfaaDoorInts
namespace Go.Proofs.YtclcgckledbpfaaDoor
open Go.RowKit
/-- a slice of one's own that reads as L, and a yes or no -/
def IntsOut (w : World) (L : List Int) (ok : Bool) (e : Ending) (w' : World) : Prop :=
  ∃ A' c', e = .returned (.tuple #[.slice A' L.length c', .bool ok]) ∧ OwnI w' w.heap.size A' L.length (fun i => L.getD i 0) ∧ Below w.heap.size w w'
theorem IntsOut.row {w w' : World} {base : Nat} {t : TypeId} {A : Option Addr} {c : Nat} {L L' : List Int} {ok ok' : Bool} (hO : w'.ownsRow base t 1 (.slice A L'.length c) L'.length (L'.map (Value.int .i64)))
    (hL : L = L') (hok : ok = ok') (hB : w.heap.size ≤ base) (hb : Below w.heap.size w w') : IntsOut w L ok (.returned (.tuple #[.slice A L'.length c, .bool ok'])) w' := by
  subst hL hok
  exact ⟨_, _, rfl, (ownI_of rfl hO).more hB, hb⟩
theorem IntsOut.none {w w' : World} {A : Option Addr} {c : Nat} {L : List Int} {ok ok' : Bool} (hL : L = []) (hok : ok = ok') (hb : Below w.heap.size w w') : IntsOut w L ok (.returned (.tuple #[.slice A 0 c, .bool ok'])) w' := by
  subst hL hok
  exact ⟨_, _, rfl, fun h => absurd h (by simp), hb⟩
end Go.Proofs.YtclcgckledbpfaaDoor
