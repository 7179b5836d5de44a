/- What the functions return that build a list of pairs. -/
import Derived.Test.YtfflbkmncnaffaaPairB
namespace Go.Proofs.Ytfflbkmncnaffaa
open Go.RowKit
/-- a slice of pairs of one's own, and a yes or no -/
def PairsOut (w : World) (L : List (Int × Int)) (ok : Bool) (e : Ending) (w' : World) : Prop :=
  ∃ A' c', e = .returned (.tuple #[.slice A' L.length c', .bool ok]) ∧ Own w' w.heap.size 2 A' L.length (pairC (fun i => L.getD i (0, 0))) ∧ Below w.heap.size w w'
theorem PairsOut.row {w w' : World} {base : Nat} {t : TypeId} {A : Option Addr} {c : Nat} {L L' : List (Int × Int)} {ok ok' : Bool} (hO : w'.ownsRow base t 2 (.slice A L'.length c) L'.length (pairCells L'))
    (hL : L = L') (hok : ok = ok') (hB : w.heap.size ≤ base) (hb : Below w.heap.size w w') : PairsOut w L ok (.returned (.tuple #[.slice A L'.length c, .bool ok'])) w' := by
  subst hL hok
  exact ⟨_, _, rfl, (ownP_of rfl hO).more hB, hb⟩
theorem PairsOut.none {w w' : World} {A : Option Addr} {c : Nat} {L : List (Int × Int)} {ok ok' : Bool} (hL : L = []) (hok : ok = ok') (hb : Below w.heap.size w w') : PairsOut w L ok (.returned (.tuple #[.slice A 0 c, .bool ok'])) w' := by
  subst hL hok
  exact ⟨_, _, rfl, fun h => absurd h (by simp), hb⟩
theorem pair_info : (Try.prog.info? 59).map (fun i => (i.zero, i.size, i.bytes)) = some (some (.agg #[.int .i64 0, .int .i64 0]), 2, 16) := by kernel_rfl
theorem ownsRow_emptyG {g : Nat} (w : World) (e : TypeId) (size : Nat) (hg : g = w.heap.size) : (w.alloc (.cells #[] e)).ownsRow g e size (.slice (some ⟨g, 0, none⟩) 0 0) 0 [] := by
  subst hg
  exact ownsRow_empty w e size
end Go.Proofs.Ytfflbkmncnaffaa
