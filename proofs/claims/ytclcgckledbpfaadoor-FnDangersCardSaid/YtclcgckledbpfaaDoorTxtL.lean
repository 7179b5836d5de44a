/- The law on a danger's text. -/
import Derived.Test.YtclcgckledbpfaaDoorTxtC
namespace Go.Proofs.YtclcgckledbpfaaDoor
open Go.RowKit
theorem DangerText_any (s : DG) (w : World) (hT : TabB w.heap.size w) : Calls Tryd.prog 7 #[.agg #[.int .i64 s.id, .int .i64 s.kind, .int .i64 s.x, .int .i64 s.y, .int .i64 s.least, .int .i64 s.quality, .int .i64 s.seen]] w fun e w' => e = .returned (.tuple #[.string ⟨(dgO s).toArray⟩, .bool (okD s)]) ∧ Below w.heap.size w w' := by
  unfold dgO
  cases h : okD s with
  | false => exact DangerText_no s w h
  | true => exact DangerText_yes s w hT h
theorem specText_any (s : DG) (w : World) : Calls Tryd.prog 5 #[.agg #[.int .i64 s.id, .int .i64 s.kind, .int .i64 s.x, .int .i64 s.y, .int .i64 s.least, .int .i64 s.quality, .int .i64 s.seen]] w fun e w' => e = .returned (.tuple #[.string ⟨(dgO s).toArray⟩, .bool (okD s)]) ∧ Below w.heap.size w w' := by
  unfold dgO
  cases h : okD s with
  | false => exact specText_no s w h
  | true => exact specText_yes s w h
theorem law_DangerText (s : DG) (w : World) (hT : TabB w.heap.size w) : Calls Tryd.prog 3 #[.agg #[.int .i64 s.id, .int .i64 s.kind, .int .i64 s.x, .int .i64 s.y, .int .i64 s.least, .int .i64 s.quality, .int .i64 s.seen]] w fun e w' => e = .returned (.bool true) ∧ Below w.heap.size w w' := by
  have HT := Lib.hid (fun W (hb : Below w.heap.size w W) => DangerText_any s W (Lib.tabBelow_of_tabIs (Lib.TabBelow.here (hT.on hb))))
  have HP := Lib.hid (fun W => specText_any s W)
  generalize dgO s = L at HT HP
  generalize okD s = q at HT HP
  clear hT
  go_enter Tryd.func3, Tryd.ntmps3
  go_wp2_with fail
  refine (toDanger_any s _).mono ?_
  rintro e w1 ⟨rfl, hbw1⟩
  obtain ⟨hzw1, hcw1, hfw1⟩ := bfacts hbw1; (try simp at hzw1 hcw1 hfw1); (try (have : w.heap.size < w1.heap.size := by omega)); (try (have : w.heap.size + 1 < w1.heap.size := by omega)); (try (have : w.heap.size + 1 + 1 < w1.heap.size := by omega)); (try (have : w.heap.size + 1 + 1 + 1 < w1.heap.size := by omega))
  go_wp2_with fail
  refine (HP.out _).mono ?_
  rintro e w2 ⟨rfl, hbw2⟩
  obtain ⟨hzw2, hcw2, hfw2⟩ := bfacts hbw2; (try simp at hzw2 hcw2 hfw2); (try (have : w.heap.size < w2.heap.size := by omega)); (try (have : w.heap.size + 1 < w2.heap.size := by omega)); (try (have : w.heap.size + 1 + 1 < w2.heap.size := by omega)); (try (have : w.heap.size + 1 + 1 + 1 < w2.heap.size := by omega))
  go_wp2_with fail
  refine (toDanger_any s _).mono ?_
  rintro e w3 ⟨rfl, hbw3⟩
  obtain ⟨hzw3, hcw3, hfw3⟩ := bfacts hbw3; (try simp at hzw3 hcw3 hfw3); (try (have : w.heap.size < w3.heap.size := by omega)); (try (have : w.heap.size + 1 < w3.heap.size := by omega)); (try (have : w.heap.size + 1 + 1 < w3.heap.size := by omega)); (try (have : w.heap.size + 1 + 1 + 1 < w3.heap.size := by omega))
  go_wp2_with fail
  refine (HT.out _ (by repeat' (first | (with_reducible exact Below.refl _ _) | (with_reducible assumption) | (with_reducible refine Below.alloc ?_ ?_ _) | (with_reducible refine Below.drew ?_) | (with_reducible refine Below.setCell ?_ ?_ _) | (with_reducible refine Below.stepB (by assumption) ?_ ?_) | go_size))).mono ?_
  rintro e w4 ⟨rfl, hbw4⟩
  obtain ⟨hzw4, hcw4, hfw4⟩ := bfacts hbw4; (try simp at hzw4 hcw4 hfw4); (try (have : w.heap.size < w4.heap.size := by omega)); (try (have : w.heap.size + 1 < w4.heap.size := by omega)); (try (have : w.heap.size + 1 + 1 < w4.heap.size := by omega)); (try (have : w.heap.size + 1 + 1 + 1 < w4.heap.size := by omega))
  cases q <;> (go_wp2; go_ret; exact ⟨rfl, by repeat' (first | (with_reducible exact Below.refl _ _) | (with_reducible assumption) | (with_reducible refine Below.alloc ?_ ?_ _) | (with_reducible refine Below.drew ?_) | (with_reducible refine Below.setCell ?_ ?_ _) | (with_reducible refine Below.stepB (by assumption) ?_ ?_) | go_size)⟩)
end Go.Proofs.YtclcgckledbpfaaDoor
