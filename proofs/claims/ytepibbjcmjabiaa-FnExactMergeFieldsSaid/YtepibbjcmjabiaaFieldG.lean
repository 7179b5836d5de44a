/- Contracts of the functions that list the shoal cells. -/
import Derived.Test.YtepibbjcmjabiaaFieldE
import Derived.Test.YtepibbjcmjabiaaPairB
import Derived.StillTailTactics
namespace Go.Proofs.Ytepibbjcmjabiaa
open Go.RowKit
/-- a slice of pairs of one's own, and a yes or no -/
def PairsOut (w : World) (L : List (Int × Int)) (ok : Bool) (e : Ending) (w' : World) : Prop :=
  ∃ A' c', e = .returned (.tuple #[.slice A' L.length c', .bool ok]) ∧ Own w' w.heap.size 2 A' L.length (pairC (fun i => L.getD i (0, 0))) ∧ Below w.heap.size w w'
theorem PairsOut.row {w w' : World} {base : Nat} {t : TypeId} {A : Option Addr} {c : Nat} {L L' : List (Int × Int)} {ok ok' : Bool} (hO : w'.ownsRow base t 2 (.slice A L'.length c) L'.length (pairCells L'))
    (hL : L = L') (hok : ok = ok') (hB : w.heap.size ≤ base) (hb : Below w.heap.size w w') : PairsOut w L ok (.returned (.tuple #[.slice A L'.length c, .bool ok'])) w' := by
  subst hL hok
  exact ⟨_, _, rfl, (ownP_of rfl hO).more hB, hb⟩
theorem PairsOut.none {w w' : World} {A : Option Addr} {c : Nat} {L : List (Int × Int)} {ok ok' : Bool} (hL : L = []) (hok : ok = ok') (hb : Below w.heap.size w w') : PairsOut w L ok (.returned (.tuple #[.slice A 0 c, .bool ok'])) w' := by
  subst hL hok
  exact ⟨_, _, rfl, fun h => absurd h (by simp), hb⟩
theorem pair_info : (Try.prog.info? 56).map (fun i => (i.zero, i.size, i.bytes)) = some (some (.agg #[.int .i64 0, .int .i64 0]), 2, 16) := by kernel_rfl
theorem ownsRow_emptyG {g : Nat} (w : World) (e : TypeId) (size : Nat) (hg : g = w.heap.size) : (w.alloc (.cells #[] e)).ownsRow g e size (.slice (some ⟨g, 0, none⟩) 0 0) 0 [] := by
  subst hg
  exact ownsRow_empty w e size
def shoalP (L : Nat → Int) (lev : Int) (i : Nat) : Bool := decide (L i < lev)
def cellAt (cl : Int) (i : Nat) : Int × Int := ((i : Int) / cl, (i : Int) % cl)
def shoalL (r cl : Int) (n : Nat) (L : Nat → Int) (lev : Int) : List (Int × Int) := if okLev r cl n L lev = true then pick (shoalP L lev) (cellAt cl) n else []
theorem ShoalCells_yes (r cl : Int) (A : Option Addr) (n c : Nat) (L : Nat → Int) (lev : Int) (w : World) (hS : SlI w A n L) (hn : n ≤ 1048576) (h : okLev r cl n L lev = true) : Calls Try.prog 22 #[.agg #[.int .i64 r, .int .i64 cl, .slice A n c], .int .i64 lev] w
    fun e w' => PairsOut w (shoalL r cl n L lev) (okLev r cl n L lev) e w' := by
  have hG := fun W (hb : Below w.heap.size w W) => isLevel_any r cl A n c L lev W (hS.below hb) hn
  rw [h] at hG
  rw [shoalL, h, if_pos rfl]
  have h0 : okF r cl n L = true := by
    simp only [okLev, Bool.and_eq_true] at h
    exact h.1
  obtain ⟨hr, ⟨hc1, hc2⟩, hn0, hn36, -⟩ := okF_bd h0
  have HG := Lib.hid hG
  clear hG h h0
  have hcz : ¬ cl = 0 := by omega
  have hcz2 : 0 < cl := by omega
  obtain ⟨i0, hi0, hz0, hz1, hz2⟩ := info_parts pair_info
  go_enter Try.func22, Try.ntmps22
  go_wp2_with fail
  refine (HG.out _ (by repeat' (first | (with_reducible exact Below.refl _ _) | (with_reducible assumption) | (with_reducible refine Below.alloc ?_ ?_ _) | (with_reducible refine Below.drew ?_) | (with_reducible refine Below.setCell ?_ ?_ _) | (with_reducible refine Below.stepB (by assumption) ?_ ?_) | go_size))).mono ?_
  rintro e w1 ⟨rfl, hbw1⟩
  obtain ⟨hzw1, hcw1, hfw1⟩ := bfacts hbw1; (try simp at hzw1 hcw1 hfw1); (try (have : w.heap.size < w1.heap.size := by omega)); (try (have : w.heap.size + 1 < w1.heap.size := by omega)); (try (have : w.heap.size + 1 + 1 < w1.heap.size := by omega)); (try (have : w.heap.size + 1 + 1 + 1 < w1.heap.size := by omega))
  have hB1 : Blk w1 w.heap.size 27 #[.int .i64 r, .int .i64 cl, .slice A n c] := (blk_new w _ _ rfl).below hbw1 (by simp <;> omega)
  go_wp2
  go_loopw [6, 17] (fun v6 vc wr => ∃ k : Nat, k ≤ n ∧ vc = .int .i64 k ∧ wr.ownsRow w1.heap.size 56 2 v6 (pick (shoalP L lev) (cellAt cl) k).length (pairCells (pick (shoalP L lev) (cellAt cl) k)) ∧ Blk wr w.heap.size 27 #[.int .i64 r, .int .i64 cl, .slice A n c] ∧ Below w.heap.size w wr ∧ w1.heap.size ≤ wr.heap.size) (fun _ vc _ => n - (intOf vc).toNat)
  case atStart => exact ⟨0, Nat.zero_le _, rfl, ownsRow_empty w1 56 2, hB1.alloc _, by repeat' (first | (with_reducible exact Below.refl _ _) | (with_reducible assumption) | (with_reducible refine Below.alloc ?_ ?_ _) | (with_reducible refine Below.drew ?_) | (with_reducible refine Below.setCell ?_ ?_ _) | (with_reducible refine Below.stepB (by assumption) ?_ ?_) | go_size), by go_size⟩
  case round =>
    obtain ⟨k, hk, rfl, hO, hB, hbr, hzr1⟩ := hrel
    have hzr := hbr.size
    clear hB1
    have hg0 := hB.lt
    have g1 : wr.cell? ⟨w.heap.size, 1, none⟩ = some (.int .i64 cl) := hB.cell 1
    obtain ⟨A6, c6, rfl⟩ := ownsRow_form hO
    by_cases hlt : k < n
    · obtain ⟨⟨b1, b2⟩, b3, b4⟩ := dm_bd (i := k) hc1 hc2 (by omega)
      obtain ⟨b, off, rfl, hbl, hbl2, c0⟩ := hS.at hbr hlt
      have HO := Lib.hid hO
      have hlen := pick_len (p := shoalP L lev) (h := cellAt cl) k
      clear hO
      by_cases hq : L k < lev
      · have HH : Hid (shoalP L lev k = true) := by show _ = _; simp [shoalP, hq]
        have HE1 : Hid (IntKind.i64.wrap ((k : Int) / cl) = (k : Int) / cl) := by show _ = _; rw [IntKind.wrap_i64]; omega
        have HE2 : Hid ((k : Int).tmod cl = (k : Int) % cl) := by show _ = _; exact Int.tmod_eq_emod_of_nonneg (by omega)
        go_wp2
        have he1 := HE1.out
        go_region_held3 (fun w' => w'.cell? ⟨w.heap.size, 1, none⟩ = some (.int .i64 cl)) (first | go_keep | ((try dsimp only); (repeat' apply And.intro) <;> go_keep)) ((refine step_append_pair (by rfl) _ _ 40 (by rfl) w1.heap.size 56 i0 Try.underlying40 hi0 hz0 hz1 hz2 _ (pick (shoalP L lev) (cellAt cl) k).length (pairCells (pick (shoalP L lev) (cellAt cl) k)) (by rfl) ((HO.out.alloc _).drew) wr.heap.size 0 1 ((k : Int) / cl) ((k : Int) % cl) (by rfl) ?_ ?_ (by omega) (by simp; omega) ?_; go_loud (focus (simp; done)); go_loud (focus (simp [HE2.out]; done)); intro v9 w4 hOw4 hbw4; have hzw4 := hbw4.size; (try simp at hzw4); have g4 : w4.cell? ⟨w.heap.size, 1, none⟩ = some (.int .i64 cl) := (hbw4.cell (p := ⟨w.heap.size, 1, none⟩) (by simp <;> omega)).trans ((((Below.refl wr.heap.size wr).alloc (Nat.le_refl _) _).cell (p := ⟨w.heap.size, 1, none⟩) hg0).trans g1)))
        have hB14 : Below w1.heap.size wr w4 := by repeat' (first | (with_reducible exact Below.refl _ _) | (with_reducible assumption) | (with_reducible refine Below.alloc ?_ ?_ _) | (with_reducible refine Below.drew ?_) | (with_reducible refine Below.setCell ?_ ?_ _) | (with_reducible refine Below.stepB (by assumption) ?_ ?_) | go_size)
        clear he1
        go_wp2
        go_roundw
        case rel => exact ⟨k + 1, by omega, by go_num, by rw [pick_hit HH.out, pairCells_snoc]; simpa [cellAt] using hOw4, hB.below hB14 (by omega), by repeat' (first | (with_reducible exact Below.refl _ _) | (with_reducible assumption) | (with_reducible refine Below.alloc ?_ ?_ _) | (with_reducible refine Below.drew ?_) | (with_reducible refine Below.setCell ?_ ?_ _) | (with_reducible refine Below.stepB (by assumption) ?_ ?_) | go_size), by omega⟩
        case measure => simp [intOf]; omega
      · have HH : Hid (shoalP L lev k = false) := by show _ = _; simp [shoalP, hq]
        go_wp2
        go_roundw
        case rel => exact ⟨k + 1, by omega, by go_num, by rw [pick_miss HH.out]; exact HO.out, hB, by repeat' (first | (with_reducible exact Below.refl _ _) | (with_reducible assumption) | (with_reducible refine Below.alloc ?_ ?_ _) | (with_reducible refine Below.drew ?_) | (with_reducible refine Below.setCell ?_ ?_ _) | (with_reducible refine Below.stepB (by assumption) ?_ ?_) | go_size), by omega⟩
        case measure => simp [intOf]; omega
    · obtain rfl : k = n := by omega
      go_wp2
      go_ret2
      exact PairsOut.row hO rfl rfl (by omega) (by repeat' (first | (with_reducible exact Below.refl _ _) | (with_reducible assumption) | (with_reducible refine Below.alloc ?_ ?_ _) | (with_reducible refine Below.drew ?_) | (with_reducible refine Below.setCell ?_ ?_ _) | (with_reducible refine Below.stepB (by assumption) ?_ ?_) | go_size))
theorem specShoal_yes (r cl : Int) (A : Option Addr) (n c : Nat) (L : Nat → Int) (lev : Int) (w : World) (hS : SlI w A n L) (hn : n ≤ 1048576) (h : okLev r cl n L lev = true) : Calls Try.prog 21 #[.agg #[.int .i64 r, .int .i64 cl, .slice A n c], .int .i64 lev] w
    fun e w' => PairsOut w (shoalL r cl n L lev) (okLev r cl n L lev) e w' := by
  have hG := fun W (hb : Below w.heap.size w W) => l19Asked_any r cl A n c L lev W (hS.below hb) hn
  rw [h] at hG
  rw [shoalL, h, if_pos rfl]
  have h0 : okF r cl n L = true := by
    simp only [okLev, Bool.and_eq_true] at h
    exact h.1
  obtain ⟨hr, ⟨hc1, hc2⟩, hn0, hn36, -⟩ := okF_bd h0
  have HG := Lib.hid hG
  clear hG h h0
  have hcz : ¬ cl = 0 := by omega
  have hcz2 : 0 < cl := by omega
  obtain ⟨i0, hi0, hz0, hz1, hz2⟩ := info_parts pair_info
  go_enter Try.func21, Try.ntmps21
  go_wp2_with fail
  refine (HG.out _ (by repeat' (first | (with_reducible exact Below.refl _ _) | (with_reducible assumption) | (with_reducible refine Below.alloc ?_ ?_ _) | (with_reducible refine Below.drew ?_) | (with_reducible refine Below.setCell ?_ ?_ _) | (with_reducible refine Below.stepB (by assumption) ?_ ?_) | go_size))).mono ?_
  rintro e w1 ⟨rfl, hbw1⟩
  obtain ⟨hzw1, hcw1, hfw1⟩ := bfacts hbw1; (try simp at hzw1 hcw1 hfw1); (try (have : w.heap.size < w1.heap.size := by omega)); (try (have : w.heap.size + 1 < w1.heap.size := by omega)); (try (have : w.heap.size + 1 + 1 < w1.heap.size := by omega)); (try (have : w.heap.size + 1 + 1 + 1 < w1.heap.size := by omega))
  have hB1 : Blk w1 w.heap.size 27 #[.int .i64 r, .int .i64 cl, .slice A n c] := ((blk_new w _ _ rfl).alloc _).below hbw1 (by simp <;> omega)
  have hO0 := ownsRow_below (ownsRow_emptyG (g := w.heap.size + 1) (w.alloc (.cells #[.int .i64 r, .int .i64 cl, .slice A n c] 27)) 56 2 (by simp)) hbw1
  go_wp2
  go_loopw [6, 7] (fun v6 vc wr => ∃ k : Nat, k ≤ n ∧ vc = .int .i64 k ∧ wr.ownsRow (w.heap.size + 1) 56 2 v6 (pick (shoalP L lev) (cellAt cl) k).length (pairCells (pick (shoalP L lev) (cellAt cl) k)) ∧ Blk wr w.heap.size 27 #[.int .i64 r, .int .i64 cl, .slice A n c] ∧ Below w.heap.size w wr ∧ w.heap.size + 1 ≤ wr.heap.size) (fun _ vc _ => n - (intOf vc).toNat)
  case atStart => exact ⟨0, Nat.zero_le _, rfl, hO0, hB1, by repeat' (first | (with_reducible exact Below.refl _ _) | (with_reducible assumption) | (with_reducible refine Below.alloc ?_ ?_ _) | (with_reducible refine Below.drew ?_) | (with_reducible refine Below.setCell ?_ ?_ _) | (with_reducible refine Below.stepB (by assumption) ?_ ?_) | go_size), by omega⟩
  case round =>
    obtain ⟨k, hk, rfl, hO, hB, hbr, hzr1⟩ := hrel
    have hzr := hbr.size
    clear hB1 hO0
    have g2 : wr.cell? ⟨w.heap.size, 2, none⟩ = some (.slice A n c) := hB.cell 2
    have hg0 := hB.lt
    have g1 : wr.cell? ⟨w.heap.size, 1, none⟩ = some (.int .i64 cl) := hB.cell 1
    obtain ⟨A6, c6, rfl⟩ := ownsRow_form hO
    by_cases hlt : k < n
    · obtain ⟨⟨b1, b2⟩, b3, b4⟩ := dm_bd (i := k) hc1 hc2 (by omega)
      obtain ⟨b, off, rfl, hbl, hbl2, c0⟩ := hS.at hbr hlt
      have HO := Lib.hid hO
      have hlen := pick_len (p := shoalP L lev) (h := cellAt cl) k
      clear hO
      by_cases hq : L k < lev
      · have HH : Hid (shoalP L lev k = true) := by show _ = _; simp [shoalP, hq]
        have HE1 : Hid (IntKind.i64.wrap ((k : Int) / cl) = (k : Int) / cl) := by show _ = _; rw [IntKind.wrap_i64]; omega
        have HE2 : Hid ((k : Int).tmod cl = (k : Int) % cl) := by show _ = _; exact Int.tmod_eq_emod_of_nonneg (by omega)
        go_wp2
        have he1 := HE1.out
        go_region_held3 (fun w' => w'.cell? ⟨w.heap.size, 1, none⟩ = some (.int .i64 cl)) (first | go_keep | ((try dsimp only); (repeat' apply And.intro) <;> go_keep)) ((refine step_append_pair (by rfl) _ _ 40 (by rfl) (w.heap.size + 1) 56 i0 Try.underlying40 hi0 hz0 hz1 hz2 _ (pick (shoalP L lev) (cellAt cl) k).length (pairCells (pick (shoalP L lev) (cellAt cl) k)) (by rfl) ((HO.out.alloc _).drew) wr.heap.size 0 1 ((k : Int) / cl) ((k : Int) % cl) (by rfl) ?_ ?_ (by omega) (by simp; omega) ?_; go_loud (focus (simp; done)); go_loud (focus (simp [HE2.out]; done)); intro v9 w4 hOw4 hbw4; have hzw4 := hbw4.size; (try simp at hzw4); have g4 : w4.cell? ⟨w.heap.size, 1, none⟩ = some (.int .i64 cl) := (hbw4.cell (p := ⟨w.heap.size, 1, none⟩) (by simp <;> omega)).trans ((((Below.refl wr.heap.size wr).alloc (Nat.le_refl _) _).cell (p := ⟨w.heap.size, 1, none⟩) hg0).trans g1)))
        have hB14 : Below (w.heap.size + 1) wr w4 := by repeat' (first | (with_reducible exact Below.refl _ _) | (with_reducible assumption) | (with_reducible refine Below.alloc ?_ ?_ _) | (with_reducible refine Below.drew ?_) | (with_reducible refine Below.setCell ?_ ?_ _) | (with_reducible refine Below.stepB (by assumption) ?_ ?_) | go_size)
        clear he1
        go_wp2
        go_roundw
        case rel => exact ⟨k + 1, by omega, by go_num, by rw [pick_hit HH.out, pairCells_snoc]; simpa [cellAt] using hOw4, hB.below hB14 (by omega), by repeat' (first | (with_reducible exact Below.refl _ _) | (with_reducible assumption) | (with_reducible refine Below.alloc ?_ ?_ _) | (with_reducible refine Below.drew ?_) | (with_reducible refine Below.setCell ?_ ?_ _) | (with_reducible refine Below.stepB (by assumption) ?_ ?_) | go_size), by omega⟩
        case measure => simp [intOf]; omega
      · have HH : Hid (shoalP L lev k = false) := by show _ = _; simp [shoalP, hq]
        go_wp2
        go_roundw
        case rel => exact ⟨k + 1, by omega, by go_num, by rw [pick_miss HH.out]; exact HO.out, hB, by repeat' (first | (with_reducible exact Below.refl _ _) | (with_reducible assumption) | (with_reducible refine Below.alloc ?_ ?_ _) | (with_reducible refine Below.drew ?_) | (with_reducible refine Below.setCell ?_ ?_ _) | (with_reducible refine Below.stepB (by assumption) ?_ ?_) | go_size), by omega⟩
        case measure => simp [intOf]; omega
    · obtain rfl : k = n := by omega
      go_wp2
      go_ret2
      exact PairsOut.row hO rfl rfl (by omega) (by repeat' (first | (with_reducible exact Below.refl _ _) | (with_reducible assumption) | (with_reducible refine Below.alloc ?_ ?_ _) | (with_reducible refine Below.drew ?_) | (with_reducible refine Below.setCell ?_ ?_ _) | (with_reducible refine Below.stepB (by assumption) ?_ ?_) | go_size))
theorem ShoalCells_no (r cl : Int) (A : Option Addr) (n c : Nat) (L : Nat → Int) (lev : Int) (w : World) (hS : SlI w A n L) (hn : n ≤ 1048576) (h : okLev r cl n L lev = false) : Calls Try.prog 22 #[.agg #[.int .i64 r, .int .i64 cl, .slice A n c], .int .i64 lev] w
    fun e w' => PairsOut w (shoalL r cl n L lev) (okLev r cl n L lev) e w' := by
  have hG := fun W (hb : Below w.heap.size w W) => isLevel_any r cl A n c L lev W (hS.below hb) hn
  rw [h] at hG
  rw [shoalL, h, if_neg (by decide)]
  have HG := Lib.hid hG
  clear hG h hS
  go_enter Try.func22, Try.ntmps22
  go_wp2_with fail
  refine (HG.out _ (by repeat' (first | (with_reducible exact Below.refl _ _) | (with_reducible assumption) | (with_reducible refine Below.alloc ?_ ?_ _) | (with_reducible refine Below.drew ?_) | (with_reducible refine Below.setCell ?_ ?_ _) | (with_reducible refine Below.stepB (by assumption) ?_ ?_) | go_size))).mono ?_
  rintro e w1 ⟨rfl, hbw1⟩
  obtain ⟨hzw1, hcw1, hfw1⟩ := bfacts hbw1; (try simp at hzw1 hcw1 hfw1); (try (have : w.heap.size < w1.heap.size := by omega)); (try (have : w.heap.size + 1 < w1.heap.size := by omega)); (try (have : w.heap.size + 1 + 1 < w1.heap.size := by omega)); (try (have : w.heap.size + 1 + 1 + 1 < w1.heap.size := by omega))
  go_wp2
  go_ret2
  exact PairsOut.none rfl rfl (by repeat' (first | (with_reducible exact Below.refl _ _) | (with_reducible assumption) | (with_reducible refine Below.alloc ?_ ?_ _) | (with_reducible refine Below.drew ?_) | (with_reducible refine Below.setCell ?_ ?_ _) | (with_reducible refine Below.stepB (by assumption) ?_ ?_) | go_size))
theorem ShoalCells_any (r cl : Int) (A : Option Addr) (n c : Nat) (L : Nat → Int) (lev : Int) (w : World) (hS : SlI w A n L) (hn : n ≤ 1048576) : Calls Try.prog 22 #[.agg #[.int .i64 r, .int .i64 cl, .slice A n c], .int .i64 lev] w
    fun e w' => PairsOut w (shoalL r cl n L lev) (okLev r cl n L lev) e w' := by
  rcases Bool.eq_false_or_eq_true (okLev r cl n L lev) with h | h
  · exact ShoalCells_yes r cl A n c L lev w hS hn h
  · exact ShoalCells_no r cl A n c L lev w hS hn h
theorem specShoal_no (r cl : Int) (A : Option Addr) (n c : Nat) (L : Nat → Int) (lev : Int) (w : World) (hS : SlI w A n L) (hn : n ≤ 1048576) (h : okLev r cl n L lev = false) : Calls Try.prog 21 #[.agg #[.int .i64 r, .int .i64 cl, .slice A n c], .int .i64 lev] w
    fun e w' => PairsOut w (shoalL r cl n L lev) (okLev r cl n L lev) e w' := by
  have hG := fun W (hb : Below w.heap.size w W) => l19Asked_any r cl A n c L lev W (hS.below hb) hn
  rw [h] at hG
  rw [shoalL, h, if_neg (by decide)]
  have HG := Lib.hid hG
  clear hG h hS
  go_enter Try.func21, Try.ntmps21
  go_wp2_with fail
  refine (HG.out _ (by repeat' (first | (with_reducible exact Below.refl _ _) | (with_reducible assumption) | (with_reducible refine Below.alloc ?_ ?_ _) | (with_reducible refine Below.drew ?_) | (with_reducible refine Below.setCell ?_ ?_ _) | (with_reducible refine Below.stepB (by assumption) ?_ ?_) | go_size))).mono ?_
  rintro e w1 ⟨rfl, hbw1⟩
  obtain ⟨hzw1, hcw1, hfw1⟩ := bfacts hbw1; (try simp at hzw1 hcw1 hfw1); (try (have : w.heap.size < w1.heap.size := by omega)); (try (have : w.heap.size + 1 < w1.heap.size := by omega)); (try (have : w.heap.size + 1 + 1 < w1.heap.size := by omega)); (try (have : w.heap.size + 1 + 1 + 1 < w1.heap.size := by omega))
  go_wp2
  go_ret2
  exact PairsOut.none rfl rfl (by repeat' (first | (with_reducible exact Below.refl _ _) | (with_reducible assumption) | (with_reducible refine Below.alloc ?_ ?_ _) | (with_reducible refine Below.drew ?_) | (with_reducible refine Below.setCell ?_ ?_ _) | (with_reducible refine Below.stepB (by assumption) ?_ ?_) | go_size))
theorem specShoal_any (r cl : Int) (A : Option Addr) (n c : Nat) (L : Nat → Int) (lev : Int) (w : World) (hS : SlI w A n L) (hn : n ≤ 1048576) : Calls Try.prog 21 #[.agg #[.int .i64 r, .int .i64 cl, .slice A n c], .int .i64 lev] w
    fun e w' => PairsOut w (shoalL r cl n L lev) (okLev r cl n L lev) e w' := by
  rcases Bool.eq_false_or_eq_true (okLev r cl n L lev) with h | h
  · exact specShoal_yes r cl A n c L lev w hS hn h
  · exact specShoal_no r cl A n c L lev w hS hn h
theorem shoalL_len (r cl : Int) (n : Nat) (L : Nat → Int) (lev : Int) (hn : n ≤ 1048576) : (shoalL r cl n L lev).length ≤ 1048576 := by
  unfold shoalL
  split
  · have := pick_len (p := shoalP L lev) (h := cellAt cl) n
    omega
  · simp
end Go.Proofs.Ytepibbjcmjabiaa
