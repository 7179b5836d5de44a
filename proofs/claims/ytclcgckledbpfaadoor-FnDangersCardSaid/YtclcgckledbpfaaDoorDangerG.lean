/- Contracts: a danger that is seen again: the program's and the reference's. -/
import Derived.Test.YtclcgckledbpfaaDoorDangerD
import Derived.Test.YtclcgckledbpfaaDoorIdx
import Derived.Test.YtclcgckledbpfaaDoorApp
import Derived.Test.YtclcgckledbpfaaDoorStill
import Derived.Shelf.Abstract
namespace Go.Proofs.YtclcgckledbpfaaDoor
open Go.RowKit
theorem idxDG_any (A : Option Addr) (n c : Nat) (f : Nat → DG) (p : DG → Bool) (g : Nat) (lb : Array Value) (w : World) (hS : SlDG w A n f) (hn : n ≤ 1048576)
    (eg : ∀ args w, (callFunc g args).run Tryd.prog w = .ok (.enter g args) w) (hp : ∀ (x : DG) W, Below w.heap.size w W → Calls Tryd.prog g (#[.agg #[.int .i64 x.id, .int .i64 x.kind, .int .i64 x.x, .int .i64 x.y, .int .i64 x.least, .int .i64 x.quality, .int .i64 x.seen]] ++ lb) W fun e w' => e = .returned (.bool (p x)) ∧ Below W.heap.size W w') :
    Calls Tryd.prog 46 #[.slice A n c, .func (.func g) #[] lb] w fun e w' => e = .returned (.int .i64 (idxP (fun i => p (f i)) n)) ∧ Below w.heap.size w w' := by
  have HP := Lib.hid hp
  clear hp
  go_enter Tryd.func46, Tryd.ntmps46
  go_wp2
  go_loopw [8] (fun v8 wr => ∃ k : Nat, k ≤ n ∧ v8 = .int .i64 k ∧ Hid (∀ i, i < k → p (f i) = false) ∧ Below w.heap.size w wr) (fun v8 _ => n - (intOf v8).toNat)
  case atStart => exact ⟨0, Nat.zero_le _, rfl, fun i hi => absurd hi (by omega), by repeat' (first | (with_reducible exact Below.refl _ _) | (with_reducible assumption) | (with_reducible refine Below.alloc ?_ ?_ _) | (with_reducible refine Below.drew ?_) | (with_reducible refine Below.setCell ?_ ?_ _) | (with_reducible refine Below.stepB (by assumption) ?_ ?_) | go_size)⟩
  case round =>
    obtain ⟨k, hk, rfl, hall, hbr⟩ := hrel
    have hzr := hbr.size
    by_cases hlt : k < n
    · obtain ⟨b, off, rfl, hbl, hbl2, c0, c1, c2, c3, c4, c5, c6, hc⟩ := hS.at hbr hlt
      clear hc
      rcases Bool.eq_false_or_eq_true (p (f k)) with hq | hq
      · have HQ := Lib.hid (idxP_some (p := fun i => p (f i)) hq hall n hlt)
        go_wp2_with (go_at_fn g; refine (HP.out (f k) _ (by repeat' (first | (with_reducible exact Below.refl _ _) | (with_reducible assumption) | (with_reducible refine Below.alloc ?_ ?_ _) | (with_reducible refine Below.drew ?_) | (with_reducible refine Below.setCell ?_ ?_ _) | (with_reducible refine Below.stepB (by assumption) ?_ ?_) | go_size))).mono ?_; rintro e w3 ⟨rfl, hbw3⟩; obtain ⟨hzw3, hcw3, hfw3⟩ := bfacts hbw3; (try simp at hzw3 hcw3 hfw3); (try (have : w.heap.size < w3.heap.size := by omega)); (try (have : w.heap.size + 1 < w3.heap.size := by omega)); (try (have : w.heap.size + 1 + 1 < w3.heap.size := by omega)); (try (have : w.heap.size + 1 + 1 + 1 < w3.heap.size := by omega)))
        go_ret
        exact ⟨ret_int HQ.out.symm, by repeat' (first | (with_reducible exact Below.refl _ _) | (with_reducible assumption) | (with_reducible refine Below.alloc ?_ ?_ _) | (with_reducible refine Below.drew ?_) | (with_reducible refine Below.setCell ?_ ?_ _) | (with_reducible refine Below.stepB (by assumption) ?_ ?_) | go_size)⟩
      · have hall2 : Hid (∀ i, i < k + 1 → p (f i) = false) := fun i hi => by
          rcases Nat.lt_or_ge i k with h1 | h1
          · exact hall i h1
          · obtain rfl : i = k := by omega
            exact hq
        go_wp2_with (go_at_fn g; refine (HP.out (f k) _ (by repeat' (first | (with_reducible exact Below.refl _ _) | (with_reducible assumption) | (with_reducible refine Below.alloc ?_ ?_ _) | (with_reducible refine Below.drew ?_) | (with_reducible refine Below.setCell ?_ ?_ _) | (with_reducible refine Below.stepB (by assumption) ?_ ?_) | go_size))).mono ?_; rintro e w3 ⟨rfl, hbw3⟩; obtain ⟨hzw3, hcw3, hfw3⟩ := bfacts hbw3; (try simp at hzw3 hcw3 hfw3); (try (have : w.heap.size < w3.heap.size := by omega)); (try (have : w.heap.size + 1 < w3.heap.size := by omega)); (try (have : w.heap.size + 1 + 1 < w3.heap.size := by omega)); (try (have : w.heap.size + 1 + 1 + 1 < w3.heap.size := by omega)))
        go_roundw
        case rel => exact ⟨k + 1, by omega, by go_num, hall2, by repeat' (first | (with_reducible exact Below.refl _ _) | (with_reducible assumption) | (with_reducible refine Below.alloc ?_ ?_ _) | (with_reducible refine Below.drew ?_) | (with_reducible refine Below.setCell ?_ ?_ _) | (with_reducible refine Below.stepB (by assumption) ?_ ?_) | go_size)⟩
        case measure => simp [intOf]; omega
    · obtain rfl : k = n := by omega
      go_wp2
      go_ret
      exact ⟨ret_int (idxP_none hall).symm, by repeat' (first | (with_reducible exact Below.refl _ _) | (with_reducible assumption) | (with_reducible refine Below.alloc ?_ ?_ _) | (with_reducible refine Below.drew ?_) | (with_reducible refine Below.setCell ?_ ?_ _) | (with_reducible refine Below.stepB (by assumption) ?_ ?_) | go_size)⟩
def idDG (f : Nat → DG) (n : Nat) (id : Int) : Int := idxP (fun i => decide ((f i).id = id)) n
theorem seenId_any (x : DG) (id : Int) (B : Nat) (w : World) (hB : B < w.heap.size) (hc : w.cell? ⟨B, 0, none⟩ = some (.int .i64 id)) : Calls Tryd.prog 47 #[.agg #[.int .i64 x.id, .int .i64 x.kind, .int .i64 x.x, .int .i64 x.y, .int .i64 x.least, .int .i64 x.quality, .int .i64 x.seen], .pointer (some ⟨B, 0, none⟩)] w
    fun e w' => e = .returned (.bool (decide (x.id = id))) ∧ Below w.heap.size w w' := by
  go_enter Tryd.func47, Tryd.ntmps47
  go_wp2
  go_ret
  exact ⟨ret_bool (by rw [Bool.eq_iff_iff]; simp), by repeat' (first | (with_reducible exact Below.refl _ _) | (with_reducible assumption) | (with_reducible refine Below.alloc ?_ ?_ _) | (with_reducible refine Below.drew ?_) | (with_reducible refine Below.setCell ?_ ?_ _) | (with_reducible refine Below.stepB (by assumption) ?_ ?_) | go_size)⟩
theorem enters_seenId : ∀ args w, (callFunc 47 args).run Tryd.prog w = .ok (.enter 47 args) w := enters_of Tryd.func47 (by kernel_rfl) rfl
theorem l17Find_any (A : Option Addr) (n c : Nat) (f : Nat → DG) (id : Int) (w : World) (hS : SlDG w A n f) (hn : n ≤ 1048576) : Calls Tryd.prog 48 #[.slice A n c, .int .i64 id] w
    fun e w' => e = .returned (.int .i64 (idDG f n id)) ∧ w = w' := by
  go_enter Tryd.func48, Tryd.ntmps48
  go_wp2
  go_loopw [5] (fun v3 wr => ∃ k : Nat, k ≤ n ∧ v3 = .int .i64 k ∧ Hid (∀ i, i < k → decide ((f i).id = id) = false) ∧ wr = w) (fun v3 _ => n - (intOf v3).toNat)
  case atStart => exact ⟨0, Nat.zero_le _, rfl, fun i hi => absurd hi (by omega), rfl⟩
  case round =>
    obtain ⟨k, hk, rfl, hall, rfl⟩ := hrel
    by_cases hlt : k < n
    · obtain ⟨b, off, rfl, hbl, hbl2, c0, c1, c2, c3, c4, c5, c6, hc⟩ := hS.at (Below.refl _ _) hlt
      clear hS hc
      by_cases hq : (f k).id = id
      · have HQ := Lib.hid (idxP_some (p := fun i => decide ((f i).id = id)) (by simpa using hq) hall n hlt)
        go_wp2
        go_ret
        exact ⟨ret_int HQ.out.symm, rfl⟩
      · have hall2 : Hid (∀ i, i < k + 1 → decide ((f i).id = id) = false) := fun i hi => by
          rcases Nat.lt_or_ge i k with h1 | h1
          · exact hall i h1
          · obtain rfl : i = k := by omega
            simpa using hq
        go_wp2
        go_roundw
        case rel => exact ⟨k + 1, by omega, by go_num, hall2, by trivial⟩
        case measure => simp [intOf]; omega
    · obtain rfl : k = n := by omega
      clear hS
      go_wp2
      go_ret
      exact ⟨ret_int (idxP_none hall).symm, rfl⟩
/-- the list with danger k seen at t, with another least depth and quality -/
def updD (f : Nat → DG) (k : Nat) (t l q : Int) : Nat → DG := fun i => if i = k then { f k with least := l, quality := q, seen := t } else f i
def seeK (f : Nat → DG) (n : Nat) (id : Int) : Nat := (idDG f n id).toNat
def seeB (f : Nat → DG) (n : Nat) (id t l q : Int) : Bool :=
  goodDAll f n && (decide (0 ≤ idDG f n id) && (!decide (t < (f (seeK f n id)).seen) && (!decide ((f (seeK f n id)).quality < q) && goodDAll (updD f (seeK f n id) t l q) n)))
def seeN (ok : Bool) (n : Nat) : Nat := if ok = true then n else 0
/-- a slice of dangers of one's own, and a yes or no -/
def DgOut (w : World) (n : Nat) (g : Nat → DG) (ok : Bool) (e : Ending) (w' : World) : Prop :=
  ∃ A' c', e = .returned (.tuple #[.slice A' n c', .bool ok]) ∧ Own w' w.heap.size 7 A' n (fun i j => (g i).cell j) ∧ Below w.heap.size w w'
theorem DgOut.none {w w' : World} {A : Option Addr} {n c : Nat} {g : Nat → DG} {ok : Bool} (hok : ok = false) (hb : Below w.heap.size w w') : DgOut w (seeN ok n) g ok (.returned (.tuple #[.slice A 0 c, .bool false])) w' := by
  subst hok
  exact ⟨_, _, rfl, fun h => absurd h (by simp [seeN]), hb⟩
theorem DgOut.row {w w' : World} {A : Option Addr} {n c lo : Nat} {g : Nat → DG} {ok : Bool} (hok : ok = true) (hO : Own w' lo 7 A n (fun i j => (g i).cell j)) (hlo : w.heap.size ≤ lo) (hb : Below w.heap.size w w') :
    DgOut w (seeN ok n) g ok (.returned (.tuple #[.slice A n c, .bool true])) w' := by
  subst hok
  exact ⟨_, _, rfl, hO.more hlo, hb⟩
theorem cell_one (s : DG) (j : Nat) : (s.cell j).oneCell' = true := by
  unfold DG.cell
  split <;> rfl
theorem updD_cells {w : World} {lo b n k : Nat} {f : Nat → DG} {t l q : Int} (h : Own w lo 7 (some ⟨b, 0, none⟩) n (fun i j => (f i).cell j)) :
    Own (((w.setCell ⟨b, k * 7 + 4, none⟩ (.int .i64 l)).setCell ⟨b, k * 7 + 5, none⟩ (.int .i64 q)).setCell ⟨b, k * 7 + 6, none⟩ (.int .i64 t)) lo 7 (some ⟨b, 0, none⟩) n (fun i j => (updD f k t l q i).cell j) := by
  refine Own.congr (((h.set (i := k) (j := 4) (by decide)).set (i := k) (j := 5) (by decide)).set (i := k) (j := 6) (by decide)) (fun i j hi hj => ?_)
  by_cases h1 : i = k
  · subst h1
    have : j = 0 ∨ j = 1 ∨ j = 2 ∨ j = 3 ∨ j = 4 ∨ j = 5 ∨ j = 6 := by omega
    rcases this with rfl | rfl | rfl | rfl | rfl | rfl | rfl <;> simp [updD, DG.cell]
  · simp [updD, h1]
theorem updD_all {w : World} {lo b n k : Nat} {f : Nat → DG} {t l q : Int} (h : Own w lo 7 (some ⟨b, 0, none⟩) n (fun i j => (f i).cell j)) :
    Own (((((((w.setCell ⟨b, k * 7, none⟩ (.int .i64 (f k).id)).setCell ⟨b, k * 7 + 1, none⟩ (.int .i64 (f k).kind)).setCell ⟨b, k * 7 + 2, none⟩ (.int .i64 (f k).x)).setCell ⟨b, k * 7 + 3, none⟩ (.int .i64 (f k).y)).setCell ⟨b, k * 7 + 4, none⟩ (.int .i64 l)).setCell ⟨b, k * 7 + 5, none⟩ (.int .i64 q)).setCell ⟨b, k * 7 + 6, none⟩ (.int .i64 t))
      lo 7 (some ⟨b, 0, none⟩) n (fun i j => (updD f k t l q i).cell j) := by
  refine Own.congr (((((((h.set0 (i := k) (by decide)).set (i := k) (j := 1) (by decide)).set (i := k) (j := 2) (by decide)).set (i := k) (j := 3) (by decide)).set (i := k) (j := 4) (by decide)).set (i := k) (j := 5) (by decide)).set (i := k) (j := 6) (by decide)) (fun i j hi hj => ?_)
  by_cases h1 : i = k
  · subst h1
    have : j = 0 ∨ j = 1 ∨ j = 2 ∨ j = 3 ∨ j = 4 ∨ j = 5 ∨ j = 6 := by omega
    rcases this with rfl | rfl | rfl | rfl | rfl | rfl | rfl <;> simp [updD, DG.cell]
  · simp [updD, h1]
theorem SeeAgain_no (b off n c : Nat) (f : Nat → DG) (id t l q : Int) (w : World) (hS : SlDG w (some ⟨b, off, none⟩) n f) (hn : n ≤ 1048576) (h : (goodDAll f n && (decide (0 ≤ idDG f n id) && (!decide (t < (f (seeK f n id)).seen) && !decide ((f (seeK f n id)).quality < q)))) = false) :
    Calls Tryd.prog 19 #[.slice (some ⟨b, off, none⟩) n c, .int .i64 id, .int .i64 t, .int .i64 l, .int .i64 q] w
    fun e w' => ∃ A' c', e = .returned (.tuple #[.slice A' 0 c', .bool false]) ∧ Below w.heap.size w w' := by
  have hc := fun W (hb : Below w.heap.size w W) B (hB : B < W.heap.size) (hcell : W.cell? ⟨B, 0, none⟩ = some (.int .i64 id)) =>
    idxDG_any (some ⟨b, off, none⟩) n c f (fun s => decide (s.id = id)) _ #[.pointer (some ⟨B, 0, none⟩)] W (hS.below hb) hn enters_seenId (fun x W' hb' => seenId_any x id B W' (by have := hb'.size; omega) ((hb'.cell (p := ⟨B, 0, none⟩) hB).trans hcell))
  change ∀ W, Below w.heap.size w W → ∀ B, B < W.heap.size → W.cell? ⟨B, 0, none⟩ = some (.int .i64 id) → Calls Tryd.prog 46 #[.slice (some ⟨b, off, none⟩) n c, .func (.func 47) #[] #[.pointer (some ⟨B, 0, none⟩)]] W (fun e w' => e = .returned (.int .i64 (idDG f n id)) ∧ Below W.heap.size W w') at hc
  have hA := fun W (hb : Below w.heap.size w W) => AreDangers_any (some ⟨b, off, none⟩) n c f W (hS.below hb) hn
  generalize goodDAll f n = q0 at h hA
  have HA := Lib.hid hA
  clear hA
  have hcase := idxP_cases (fun i => decide ((f i).id = id)) n
  change (idDG f n id = -1 ∧ _) ∨ (∃ k, k < n ∧ idDG f n id = (k : Int) ∧ _) at hcase
  rcases hcase with ⟨h1, _⟩ | ⟨k, hk, h1, _, _⟩
  · rw [h1] at hc
    have HC := Lib.hid hc
    clear hc hS h h1
    cases q0
    all_goals
      go_enter Tryd.func19, Tryd.ntmps19
      go_wp2_with fail
      refine (HC.out _ (by repeat' (first | (with_reducible exact Below.refl _ _) | (with_reducible assumption) | (with_reducible refine Below.alloc ?_ ?_ _) | (with_reducible refine Below.drew ?_) | (with_reducible refine Below.setCell ?_ ?_ _) | (with_reducible refine Below.stepB (by assumption) ?_ ?_) | go_size)) w.heap.size (by simp) (by simp)).mono ?_
      rintro e w1 ⟨rfl, hbw1⟩
      obtain ⟨hzw1, hcw1, hfw1⟩ := bfacts hbw1; (try simp at hzw1 hcw1 hfw1); (try (have : w.heap.size < w1.heap.size := by omega)); (try (have : w.heap.size + 1 < w1.heap.size := by omega)); (try (have : w.heap.size + 1 + 1 < w1.heap.size := by omega)); (try (have : w.heap.size + 1 + 1 + 1 < w1.heap.size := by omega))
      try (have hblw1 : b < w1.heap.size := by omega)
      go_wp2_with fail
      refine (HA.out _ (by repeat' (first | (with_reducible exact Below.refl _ _) | (with_reducible assumption) | (with_reducible refine Below.alloc ?_ ?_ _) | (with_reducible refine Below.drew ?_) | (with_reducible refine Below.setCell ?_ ?_ _) | (with_reducible refine Below.stepB (by assumption) ?_ ?_) | go_size))).mono ?_
      rintro e w2 ⟨rfl, hbw2⟩
      obtain ⟨hzw2, hcw2, hfw2⟩ := bfacts hbw2; (try simp at hzw2 hcw2 hfw2); (try (have : w.heap.size < w2.heap.size := by omega)); (try (have : w.heap.size + 1 < w2.heap.size := by omega)); (try (have : w.heap.size + 1 + 1 < w2.heap.size := by omega)); (try (have : w.heap.size + 1 + 1 + 1 < w2.heap.size := by omega))
      go_wp2
      go_ret2
      exact ⟨_, _, rfl, by repeat' (first | (with_reducible exact Below.refl _ _) | (with_reducible assumption) | (with_reducible refine Below.alloc ?_ ?_ _) | (with_reducible refine Below.drew ?_) | (with_reducible refine Below.setCell ?_ ?_ _) | (with_reducible refine Below.stepB (by assumption) ?_ ?_) | go_size)⟩
  · have hkk : seeK f n id = k := by unfold seeK; rw [h1]; rfl
    rw [h1] at hc
    rw [hkk, h1] at h
    have HC := Lib.hid hc
    clear hc h1 hkk
    have hk0 : decide (0 ≤ (k : Int)) = true := by simp
    rw [hk0] at h
    have hk1 : decide ((k : Int) < 0) = false := decide_eq_false (by omega)
    obtain ⟨b', off', hbo, hbl, hbl2, c0, c1, c2, c3, c4, c5, c6, -⟩ := hS.at (Below.refl _ _) hk
    obtain ⟨rfl, rfl⟩ : b = b' ∧ off = off' := by simpa using hbo
    clear hS hbo hbl2 hk0
    cases q0
    · clear h
      go_enter Tryd.func19, Tryd.ntmps19
      go_wp2_with fail
      refine (HC.out _ (by repeat' (first | (with_reducible exact Below.refl _ _) | (with_reducible assumption) | (with_reducible refine Below.alloc ?_ ?_ _) | (with_reducible refine Below.drew ?_) | (with_reducible refine Below.setCell ?_ ?_ _) | (with_reducible refine Below.stepB (by assumption) ?_ ?_) | go_size)) w.heap.size (by simp) (by simp)).mono ?_
      rintro e w1 ⟨rfl, hbw1⟩
      obtain ⟨hzw1, hcw1, hfw1⟩ := bfacts hbw1; (try simp at hzw1 hcw1 hfw1); (try (have : w.heap.size < w1.heap.size := by omega)); (try (have : w.heap.size + 1 < w1.heap.size := by omega)); (try (have : w.heap.size + 1 + 1 < w1.heap.size := by omega)); (try (have : w.heap.size + 1 + 1 + 1 < w1.heap.size := by omega))
      try (have hblw1 : b < w1.heap.size := by omega)
      go_wp2_with fail
      refine (HA.out _ (by repeat' (first | (with_reducible exact Below.refl _ _) | (with_reducible assumption) | (with_reducible refine Below.alloc ?_ ?_ _) | (with_reducible refine Below.drew ?_) | (with_reducible refine Below.setCell ?_ ?_ _) | (with_reducible refine Below.stepB (by assumption) ?_ ?_) | go_size))).mono ?_
      rintro e w2 ⟨rfl, hbw2⟩
      obtain ⟨hzw2, hcw2, hfw2⟩ := bfacts hbw2; (try simp at hzw2 hcw2 hfw2); (try (have : w.heap.size < w2.heap.size := by omega)); (try (have : w.heap.size + 1 < w2.heap.size := by omega)); (try (have : w.heap.size + 1 + 1 < w2.heap.size := by omega)); (try (have : w.heap.size + 1 + 1 + 1 < w2.heap.size := by omega))
      go_wp2
      go_ret2
      exact ⟨_, _, rfl, by repeat' (first | (with_reducible exact Below.refl _ _) | (with_reducible assumption) | (with_reducible refine Below.alloc ?_ ?_ _) | (with_reducible refine Below.drew ?_) | (with_reducible refine Below.setCell ?_ ?_ _) | (with_reducible refine Below.stepB (by assumption) ?_ ?_) | go_size)⟩
    · by_cases h5 : t < (f k).seen
      · clear h
        go_enter Tryd.func19, Tryd.ntmps19
        go_wp2_with fail
        refine (HC.out _ (by repeat' (first | (with_reducible exact Below.refl _ _) | (with_reducible assumption) | (with_reducible refine Below.alloc ?_ ?_ _) | (with_reducible refine Below.drew ?_) | (with_reducible refine Below.setCell ?_ ?_ _) | (with_reducible refine Below.stepB (by assumption) ?_ ?_) | go_size)) w.heap.size (by simp) (by simp)).mono ?_
        rintro e w1 ⟨rfl, hbw1⟩
        obtain ⟨hzw1, hcw1, hfw1⟩ := bfacts hbw1; (try simp at hzw1 hcw1 hfw1); (try (have : w.heap.size < w1.heap.size := by omega)); (try (have : w.heap.size + 1 < w1.heap.size := by omega)); (try (have : w.heap.size + 1 + 1 < w1.heap.size := by omega)); (try (have : w.heap.size + 1 + 1 + 1 < w1.heap.size := by omega))
        try (have hblw1 : b < w1.heap.size := by omega)
        go_wp2_with fail
        refine (HA.out _ (by repeat' (first | (with_reducible exact Below.refl _ _) | (with_reducible assumption) | (with_reducible refine Below.alloc ?_ ?_ _) | (with_reducible refine Below.drew ?_) | (with_reducible refine Below.setCell ?_ ?_ _) | (with_reducible refine Below.stepB (by assumption) ?_ ?_) | go_size))).mono ?_
        rintro e w2 ⟨rfl, hbw2⟩
        obtain ⟨hzw2, hcw2, hfw2⟩ := bfacts hbw2; (try simp at hzw2 hcw2 hfw2); (try (have : w.heap.size < w2.heap.size := by omega)); (try (have : w.heap.size + 1 < w2.heap.size := by omega)); (try (have : w.heap.size + 1 + 1 < w2.heap.size := by omega)); (try (have : w.heap.size + 1 + 1 + 1 < w2.heap.size := by omega))
        go_wp2
        go_ret2
        exact ⟨_, _, rfl, by repeat' (first | (with_reducible exact Below.refl _ _) | (with_reducible assumption) | (with_reducible refine Below.alloc ?_ ?_ _) | (with_reducible refine Below.drew ?_) | (with_reducible refine Below.setCell ?_ ?_ _) | (with_reducible refine Below.stepB (by assumption) ?_ ?_) | go_size)⟩
      · have h6 : (f k).quality < q := by
          rcases Int.lt_or_le (f k).quality q with h6 | h6
          · exact h6
          · simp [h5] at h; omega
        have h7 : decide (t < (f k).seen) = false := decide_eq_false h5
        clear h
        go_enter Tryd.func19, Tryd.ntmps19
        go_wp2_with fail
        refine (HC.out _ (by repeat' (first | (with_reducible exact Below.refl _ _) | (with_reducible assumption) | (with_reducible refine Below.alloc ?_ ?_ _) | (with_reducible refine Below.drew ?_) | (with_reducible refine Below.setCell ?_ ?_ _) | (with_reducible refine Below.stepB (by assumption) ?_ ?_) | go_size)) w.heap.size (by simp) (by simp)).mono ?_
        rintro e w1 ⟨rfl, hbw1⟩
        obtain ⟨hzw1, hcw1, hfw1⟩ := bfacts hbw1; (try simp at hzw1 hcw1 hfw1); (try (have : w.heap.size < w1.heap.size := by omega)); (try (have : w.heap.size + 1 < w1.heap.size := by omega)); (try (have : w.heap.size + 1 + 1 < w1.heap.size := by omega)); (try (have : w.heap.size + 1 + 1 + 1 < w1.heap.size := by omega))
        try (have hblw1 : b < w1.heap.size := by omega)
        go_wp2_with fail
        refine (HA.out _ (by repeat' (first | (with_reducible exact Below.refl _ _) | (with_reducible assumption) | (with_reducible refine Below.alloc ?_ ?_ _) | (with_reducible refine Below.drew ?_) | (with_reducible refine Below.setCell ?_ ?_ _) | (with_reducible refine Below.stepB (by assumption) ?_ ?_) | go_size))).mono ?_
        rintro e w2 ⟨rfl, hbw2⟩
        obtain ⟨hzw2, hcw2, hfw2⟩ := bfacts hbw2; (try simp at hzw2 hcw2 hfw2); (try (have : w.heap.size < w2.heap.size := by omega)); (try (have : w.heap.size + 1 < w2.heap.size := by omega)); (try (have : w.heap.size + 1 + 1 < w2.heap.size := by omega)); (try (have : w.heap.size + 1 + 1 + 1 < w2.heap.size := by omega))
        go_wp2
        go_ret2
        exact ⟨_, _, rfl, by repeat' (first | (with_reducible exact Below.refl _ _) | (with_reducible assumption) | (with_reducible refine Below.alloc ?_ ?_ _) | (with_reducible refine Below.drew ?_) | (with_reducible refine Below.setCell ?_ ?_ _) | (with_reducible refine Below.stepB (by assumption) ?_ ?_) | go_size)⟩
theorem specSee_no (b off n c : Nat) (f : Nat → DG) (id t l q : Int) (w : World) (hS : SlDG w (some ⟨b, off, none⟩) n f) (hn : n ≤ 1048576) (h : (goodDAll f n && (decide (0 ≤ idDG f n id) && (!decide (t < (f (seeK f n id)).seen) && !decide ((f (seeK f n id)).quality < q)))) = false) :
    Calls Tryd.prog 20 #[.slice (some ⟨b, off, none⟩) n c, .int .i64 id, .int .i64 t, .int .i64 l, .int .i64 q] w
    fun e w' => ∃ A' c', e = .returned (.tuple #[.slice A' 0 c', .bool false]) ∧ Below w.heap.size w w' := by
  have hc := fun W (hb : Below w.heap.size w W) => l17Find_any (some ⟨b, off, none⟩) n c f id W (hS.below hb) hn
  have hA := fun W (hb : Below w.heap.size w W) => l17Good_any (some ⟨b, off, none⟩) n c f W (hS.below hb) hn
  generalize goodDAll f n = q0 at h hA
  have HA := Lib.hid hA
  clear hA
  have hcase := idxP_cases (fun i => decide ((f i).id = id)) n
  change (idDG f n id = -1 ∧ _) ∨ (∃ k, k < n ∧ idDG f n id = (k : Int) ∧ _) at hcase
  rcases hcase with ⟨h1, _⟩ | ⟨k, hk, h1, _, _⟩
  · rw [h1] at hc
    have HC := Lib.hid hc
    clear hc hS h h1
    cases q0
    all_goals
      go_enter Tryd.func20, Tryd.ntmps20
      go_wp2_with fail
      refine (HC.out _ (by repeat' (first | (with_reducible exact Below.refl _ _) | (with_reducible assumption) | (with_reducible refine Below.alloc ?_ ?_ _) | (with_reducible refine Below.drew ?_) | (with_reducible refine Below.setCell ?_ ?_ _) | (with_reducible refine Below.stepB (by assumption) ?_ ?_) | go_size))).mono ?_
      rintro e w1 ⟨rfl, rfl⟩
      go_wp2_with fail
      refine (HA.out _ (by repeat' (first | (with_reducible exact Below.refl _ _) | (with_reducible assumption) | (with_reducible refine Below.alloc ?_ ?_ _) | (with_reducible refine Below.drew ?_) | (with_reducible refine Below.setCell ?_ ?_ _) | (with_reducible refine Below.stepB (by assumption) ?_ ?_) | go_size))).mono ?_
      rintro e w2 ⟨rfl, hbw2⟩
      obtain ⟨hzw2, hcw2, hfw2⟩ := bfacts hbw2; (try simp at hzw2 hcw2 hfw2); (try (have : w.heap.size < w2.heap.size := by omega)); (try (have : w.heap.size + 1 < w2.heap.size := by omega)); (try (have : w.heap.size + 1 + 1 < w2.heap.size := by omega)); (try (have : w.heap.size + 1 + 1 + 1 < w2.heap.size := by omega))
      go_wp2
      go_ret2
      exact ⟨_, _, rfl, by repeat' (first | (with_reducible exact Below.refl _ _) | (with_reducible assumption) | (with_reducible refine Below.alloc ?_ ?_ _) | (with_reducible refine Below.drew ?_) | (with_reducible refine Below.setCell ?_ ?_ _) | (with_reducible refine Below.stepB (by assumption) ?_ ?_) | go_size)⟩
  · have hkk : seeK f n id = k := by unfold seeK; rw [h1]; rfl
    rw [h1] at hc
    rw [hkk, h1] at h
    have HC := Lib.hid hc
    clear hc h1 hkk
    have hk0 : decide (0 ≤ (k : Int)) = true := by simp
    rw [hk0] at h
    have hk1 : decide ((k : Int) < 0) = false := decide_eq_false (by omega)
    obtain ⟨b', off', hbo, hbl, hbl2, c0, c1, c2, c3, c4, c5, c6, -⟩ := hS.at (Below.refl _ _) hk
    obtain ⟨rfl, rfl⟩ : b = b' ∧ off = off' := by simpa using hbo
    clear hS hbo hbl2 hk0
    cases q0
    · clear h
      go_enter Tryd.func20, Tryd.ntmps20
      go_wp2_with fail
      refine (HC.out _ (by repeat' (first | (with_reducible exact Below.refl _ _) | (with_reducible assumption) | (with_reducible refine Below.alloc ?_ ?_ _) | (with_reducible refine Below.drew ?_) | (with_reducible refine Below.setCell ?_ ?_ _) | (with_reducible refine Below.stepB (by assumption) ?_ ?_) | go_size))).mono ?_
      rintro e w1 ⟨rfl, rfl⟩
      go_wp2_with fail
      refine (HA.out _ (by repeat' (first | (with_reducible exact Below.refl _ _) | (with_reducible assumption) | (with_reducible refine Below.alloc ?_ ?_ _) | (with_reducible refine Below.drew ?_) | (with_reducible refine Below.setCell ?_ ?_ _) | (with_reducible refine Below.stepB (by assumption) ?_ ?_) | go_size))).mono ?_
      rintro e w2 ⟨rfl, hbw2⟩
      obtain ⟨hzw2, hcw2, hfw2⟩ := bfacts hbw2; (try simp at hzw2 hcw2 hfw2); (try (have : w.heap.size < w2.heap.size := by omega)); (try (have : w.heap.size + 1 < w2.heap.size := by omega)); (try (have : w.heap.size + 1 + 1 < w2.heap.size := by omega)); (try (have : w.heap.size + 1 + 1 + 1 < w2.heap.size := by omega))
      go_wp2
      go_ret2
      exact ⟨_, _, rfl, by repeat' (first | (with_reducible exact Below.refl _ _) | (with_reducible assumption) | (with_reducible refine Below.alloc ?_ ?_ _) | (with_reducible refine Below.drew ?_) | (with_reducible refine Below.setCell ?_ ?_ _) | (with_reducible refine Below.stepB (by assumption) ?_ ?_) | go_size)⟩
    · by_cases h5 : t < (f k).seen
      · clear h
        go_enter Tryd.func20, Tryd.ntmps20
        go_wp2_with fail
        refine (HC.out _ (by repeat' (first | (with_reducible exact Below.refl _ _) | (with_reducible assumption) | (with_reducible refine Below.alloc ?_ ?_ _) | (with_reducible refine Below.drew ?_) | (with_reducible refine Below.setCell ?_ ?_ _) | (with_reducible refine Below.stepB (by assumption) ?_ ?_) | go_size))).mono ?_
        rintro e w1 ⟨rfl, rfl⟩
        go_wp2_with fail
        refine (HA.out _ (by repeat' (first | (with_reducible exact Below.refl _ _) | (with_reducible assumption) | (with_reducible refine Below.alloc ?_ ?_ _) | (with_reducible refine Below.drew ?_) | (with_reducible refine Below.setCell ?_ ?_ _) | (with_reducible refine Below.stepB (by assumption) ?_ ?_) | go_size))).mono ?_
        rintro e w2 ⟨rfl, hbw2⟩
        obtain ⟨hzw2, hcw2, hfw2⟩ := bfacts hbw2; (try simp at hzw2 hcw2 hfw2); (try (have : w.heap.size < w2.heap.size := by omega)); (try (have : w.heap.size + 1 < w2.heap.size := by omega)); (try (have : w.heap.size + 1 + 1 < w2.heap.size := by omega)); (try (have : w.heap.size + 1 + 1 + 1 < w2.heap.size := by omega))
        go_wp2
        go_ret2
        exact ⟨_, _, rfl, by repeat' (first | (with_reducible exact Below.refl _ _) | (with_reducible assumption) | (with_reducible refine Below.alloc ?_ ?_ _) | (with_reducible refine Below.drew ?_) | (with_reducible refine Below.setCell ?_ ?_ _) | (with_reducible refine Below.stepB (by assumption) ?_ ?_) | go_size)⟩
      · have h6 : (f k).quality < q := by
          rcases Int.lt_or_le (f k).quality q with h6 | h6
          · exact h6
          · simp [h5] at h; omega
        have h7 : decide (t < (f k).seen) = false := decide_eq_false h5
        clear h
        go_enter Tryd.func20, Tryd.ntmps20
        go_wp2_with fail
        refine (HC.out _ (by repeat' (first | (with_reducible exact Below.refl _ _) | (with_reducible assumption) | (with_reducible refine Below.alloc ?_ ?_ _) | (with_reducible refine Below.drew ?_) | (with_reducible refine Below.setCell ?_ ?_ _) | (with_reducible refine Below.stepB (by assumption) ?_ ?_) | go_size))).mono ?_
        rintro e w1 ⟨rfl, rfl⟩
        go_wp2_with fail
        refine (HA.out _ (by repeat' (first | (with_reducible exact Below.refl _ _) | (with_reducible assumption) | (with_reducible refine Below.alloc ?_ ?_ _) | (with_reducible refine Below.drew ?_) | (with_reducible refine Below.setCell ?_ ?_ _) | (with_reducible refine Below.stepB (by assumption) ?_ ?_) | go_size))).mono ?_
        rintro e w2 ⟨rfl, hbw2⟩
        obtain ⟨hzw2, hcw2, hfw2⟩ := bfacts hbw2; (try simp at hzw2 hcw2 hfw2); (try (have : w.heap.size < w2.heap.size := by omega)); (try (have : w.heap.size + 1 < w2.heap.size := by omega)); (try (have : w.heap.size + 1 + 1 < w2.heap.size := by omega)); (try (have : w.heap.size + 1 + 1 + 1 < w2.heap.size := by omega))
        go_wp2
        go_ret2
        exact ⟨_, _, rfl, by repeat' (first | (with_reducible exact Below.refl _ _) | (with_reducible assumption) | (with_reducible refine Below.alloc ?_ ?_ _) | (with_reducible refine Below.drew ?_) | (with_reducible refine Below.setCell ?_ ?_ _) | (with_reducible refine Below.stepB (by assumption) ?_ ?_) | go_size)⟩
theorem SeeAgain_yes (b off n c : Nat) (f : Nat → DG) (id t l q : Int) (k : Nat) (w : World) (hS : SlDG w (some ⟨b, off, none⟩) n f) (hn : n ≤ 1048576) (hg : goodDAll f n = true) (hk : k < n) (h1 : idDG f n id = (k : Int)) (h5 : ¬ t < (f k).seen) (h6 : ¬ (f k).quality < q) :
    Calls Tryd.prog 19 #[.slice (some ⟨b, off, none⟩) n c, .int .i64 id, .int .i64 t, .int .i64 l, .int .i64 q] w
    fun e w' => DgOut w (seeN (goodDAll (updD f k t l q) n) n) (updD f k t l q) (goodDAll (updD f k t l q) n) e w' := by
  have hc := fun W (hb : Below w.heap.size w W) B (hB : B < W.heap.size) (hcell : W.cell? ⟨B, 0, none⟩ = some (.int .i64 id)) =>
    idxDG_any (some ⟨b, off, none⟩) n c f (fun s => decide (s.id = id)) _ #[.pointer (some ⟨B, 0, none⟩)] W (hS.below hb) hn enters_seenId (fun x W' hb' => seenId_any x id B W' (by have := hb'.size; omega) ((hb'.cell (p := ⟨B, 0, none⟩) hB).trans hcell))
  change ∀ W, Below w.heap.size w W → ∀ B, B < W.heap.size → W.cell? ⟨B, 0, none⟩ = some (.int .i64 id) → Calls Tryd.prog 46 #[.slice (some ⟨b, off, none⟩) n c, .func (.func 47) #[] #[.pointer (some ⟨B, 0, none⟩)]] W (fun e w' => e = .returned (.int .i64 (idDG f n id)) ∧ Below W.heap.size W w') at hc
  rw [h1] at hc
  have HC := Lib.hid hc
  have hA := fun W (hb : Below w.heap.size w W) => AreDangers_any (some ⟨b, off, none⟩) n c f W (hS.below hb) hn
  rw [hg] at hA
  have HA := Lib.hid hA
  have HD := Lib.hid (fun A c W (h : SlDG W A n (updD f k t l q)) => AreDangers_any A n c (updD f k t l q) W h hn)
  have hk1 : decide ((k : Int) < 0) = false := decide_eq_false (by omega)
  have h7 : decide (t < (f k).seen) = false := decide_eq_false h5
  have h8 : decide ((f k).quality < q) = false := decide_eq_false h6
  obtain ⟨b', off', hbo, hbl, hbl2, c0, c1, c2, c3, c4, c5, c6, -⟩ := hS.at (Below.refl _ _) hk
  obtain ⟨rfl, rfl⟩ : b = b' ∧ off = off' := by simpa using hbo
  obtain ⟨i0, hi0, hz0, hz1, hz2⟩ := info_parts info_Danger
  have HS := Lib.hid hS
  clear hc hA hS hbo h1 hg h5 h6 hbl2
  obtain ⟨q2, hq2⟩ : ∃ q2, goodDAll (updD f k t l q) n = q2 := ⟨_, rfl⟩
  rw [hq2] at HD ⊢
  clear hq2
  go_enter Tryd.func19, Tryd.ntmps19
  go_wp2_with fail
  refine (HC.out _ (by repeat' (first | (with_reducible exact Below.refl _ _) | (with_reducible assumption) | (with_reducible refine Below.alloc ?_ ?_ _) | (with_reducible refine Below.drew ?_) | (with_reducible refine Below.setCell ?_ ?_ _) | (with_reducible refine Below.stepB (by assumption) ?_ ?_) | go_size)) w.heap.size (by simp) (by simp)).mono ?_
  rintro e w1 ⟨rfl, hbw1⟩
  obtain ⟨hzw1, hcw1, hfw1⟩ := bfacts hbw1; (try simp at hzw1 hcw1 hfw1); (try (have : w.heap.size < w1.heap.size := by omega)); (try (have : w.heap.size + 1 < w1.heap.size := by omega)); (try (have : w.heap.size + 1 + 1 < w1.heap.size := by omega)); (try (have : w.heap.size + 1 + 1 + 1 < w1.heap.size := by omega))
  try (have hblw1 : b < w1.heap.size := by omega)
  go_wp2_with fail
  refine (HA.out _ (by repeat' (first | (with_reducible exact Below.refl _ _) | (with_reducible assumption) | (with_reducible refine Below.alloc ?_ ?_ _) | (with_reducible refine Below.drew ?_) | (with_reducible refine Below.setCell ?_ ?_ _) | (with_reducible refine Below.stepB (by assumption) ?_ ?_) | go_size))).mono ?_
  rintro e w2 ⟨rfl, hbw2⟩
  obtain ⟨hzw2, hcw2, hfw2⟩ := bfacts hbw2; (try simp at hzw2 hcw2 hfw2); (try (have : w.heap.size < w2.heap.size := by omega)); (try (have : w.heap.size + 1 < w2.heap.size := by omega)); (try (have : w.heap.size + 1 + 1 < w2.heap.size := by omega)); (try (have : w.heap.size + 1 + 1 + 1 < w2.heap.size := by omega))
  have hO0 := ownsRow_empty w2 30 7
  have HCL := Lib.hid (fun (W : World) (hb : Below w.heap.size w W) (i j : Nat) (hi : i < n) (hj : j < 7) => show W.cell? ⟨b, off + i * 7 + j, none⟩ = some ((f i).cell j) from by
    obtain ⟨b1, o1, e1, _, hc⟩ := (HS.out.below hb) (by omega)
    obtain ⟨rfl, rfl⟩ : b = b1 ∧ off = o1 := by simpa using e1
    exact hc i j hi hj)
  go_wp2_with (at_builtin; refine wpList_append_rowG _ rfl _ _ 39 rfl w2.heap.size 30 i0 _ 7 56 Tryd.underlying39 hi0 hz0 hz1 hz2 rfl (by decide) _ 0 [] rfl (hO0) b off n c (fun i j => (f i).cell j) rfl ?_ (fun i j => cell_one (f i) j) (by omega) (by decide) ?_ ?_; go_must (focus (exact HCL.out _ (by repeat' (first | (with_reducible exact Below.refl _ _) | (with_reducible assumption) | (with_reducible refine Below.alloc ?_ ?_ _) | (with_reducible refine Below.drew ?_) | (with_reducible refine Below.setCell ?_ ?_ _) | (with_reducible refine Below.stepB (by assumption) ?_ ?_) | go_size)))); go_must (focus (simp; done)); intro v9 w4 hOw4 hbw4; rw [Nat.zero_add, List.nil_append] at hOw4; obtain ⟨A9, c9, rfl⟩ := ownsRow_form hOw4; have hown := own_flat hOw4; obtain ⟨b9, rfl⟩ := hown.form (by omega); have e4 := hown.at_ (i := k) (j := 4) hk (by decide); have e5 := hown.at_ (i := k) (j := 5) hk (by decide); have e6 := hown.at_ (i := k) (j := 6) hk (by decide); skip; obtain ⟨hbl9, hfz9⟩ := hown.free (by omega); have hb9 := (hown.range (by omega) _ rfl).1; have HOWN := Lib.hid hown; have hbx : Below w2.heap.size w2 w4 := (by repeat' (first | (with_reducible exact Below.refl _ _) | (with_reducible assumption) | (with_reducible refine Below.alloc ?_ ?_ _) | (with_reducible refine Below.drew ?_) | (with_reducible refine Below.setCell ?_ ?_ _) | (with_reducible refine Below.stepB (by assumption) ?_ ?_) | go_size)); obtain ⟨hzx, hcx, hfx⟩ := bfacts hbx; clear hOw4 hown hbw4)
  refine (HD.out _ c9 _ (updD_cells HOWN.out).sl).mono ?_
  rintro e w6 ⟨rfl, hbw6⟩
  obtain ⟨hzw6, hcw6, hfw6⟩ := bfacts hbw6; (try simp at hzw6 hcw6 hfw6); (try (have : w.heap.size < w6.heap.size := by omega)); (try (have : w.heap.size + 1 < w6.heap.size := by omega)); (try (have : w.heap.size + 1 + 1 < w6.heap.size := by omega)); (try (have : w.heap.size + 1 + 1 + 1 < w6.heap.size := by omega))
  have HOW := Lib.hid ((updD_cells (k := k) (t := t) (l := l) (q := q) HOWN.out).below hbw6)
  cases q2
  · go_wp2
    go_ret2
    exact DgOut.none rfl (by repeat' (first | (with_reducible exact Below.refl _ _) | (with_reducible assumption) | (with_reducible refine Below.alloc ?_ ?_ _) | (with_reducible refine Below.drew ?_) | (with_reducible refine Below.setCell ?_ ?_ _) | (with_reducible refine Below.stepB (by assumption) ?_ ?_) | go_size))
  · go_wp2
    go_ret2
    exact DgOut.row rfl HOW.out (by omega) (by repeat' (first | (with_reducible exact Below.refl _ _) | (with_reducible assumption) | (with_reducible refine Below.alloc ?_ ?_ _) | (with_reducible refine Below.drew ?_) | (with_reducible refine Below.setCell ?_ ?_ _) | (with_reducible refine Below.stepB (by assumption) ?_ ?_) | go_size))
theorem specSee_yes (b off n c : Nat) (f : Nat → DG) (id t l q : Int) (k : Nat) (w : World) (hS : SlDG w (some ⟨b, off, none⟩) n f) (hn : n ≤ 1048576) (hg : goodDAll f n = true) (hk : k < n) (h1 : idDG f n id = (k : Int)) (h5 : ¬ t < (f k).seen) (h6 : ¬ (f k).quality < q) :
    Calls Tryd.prog 20 #[.slice (some ⟨b, off, none⟩) n c, .int .i64 id, .int .i64 t, .int .i64 l, .int .i64 q] w
    fun e w' => DgOut w (seeN (goodDAll (updD f k t l q) n) n) (updD f k t l q) (goodDAll (updD f k t l q) n) e w' := by
  have hc := fun W (hb : Below w.heap.size w W) => l17Find_any (some ⟨b, off, none⟩) n c f id W (hS.below hb) hn
  rw [h1] at hc
  have HC := Lib.hid hc
  have hA := fun W (hb : Below w.heap.size w W) => l17Good_any (some ⟨b, off, none⟩) n c f W (hS.below hb) hn
  rw [hg] at hA
  have HA := Lib.hid hA
  have HD := Lib.hid (fun A c W (h : SlDG W A n (updD f k t l q)) => l17Good_any A n c (updD f k t l q) W h hn)
  have hk1 : decide ((k : Int) < 0) = false := decide_eq_false (by omega)
  have h7 : decide (t < (f k).seen) = false := decide_eq_false h5
  have h8 : decide ((f k).quality < q) = false := decide_eq_false h6
  obtain ⟨b', off', hbo, hbl, hbl2, c0, c1, c2, c3, c4, c5, c6, -⟩ := hS.at (Below.refl _ _) hk
  obtain ⟨rfl, rfl⟩ : b = b' ∧ off = off' := by simpa using hbo
  obtain ⟨i0, hi0, hz0, hz1, hz2⟩ := info_parts info_Danger
  have HS := Lib.hid hS
  clear hc hA hS hbo h1 hg h5 h6 hbl2
  obtain ⟨q2, hq2⟩ : ∃ q2, goodDAll (updD f k t l q) n = q2 := ⟨_, rfl⟩
  rw [hq2] at HD ⊢
  clear hq2
  go_enter Tryd.func20, Tryd.ntmps20
  go_wp2_with fail
  refine (HC.out _ (by repeat' (first | (with_reducible exact Below.refl _ _) | (with_reducible assumption) | (with_reducible refine Below.alloc ?_ ?_ _) | (with_reducible refine Below.drew ?_) | (with_reducible refine Below.setCell ?_ ?_ _) | (with_reducible refine Below.stepB (by assumption) ?_ ?_) | go_size))).mono ?_
  rintro e w1 ⟨rfl, rfl⟩
  go_wp2_with fail
  refine (HA.out _ (by repeat' (first | (with_reducible exact Below.refl _ _) | (with_reducible assumption) | (with_reducible refine Below.alloc ?_ ?_ _) | (with_reducible refine Below.drew ?_) | (with_reducible refine Below.setCell ?_ ?_ _) | (with_reducible refine Below.stepB (by assumption) ?_ ?_) | go_size))).mono ?_
  rintro e w2 ⟨rfl, hbw2⟩
  obtain ⟨hzw2, hcw2, hfw2⟩ := bfacts hbw2; (try simp at hzw2 hcw2 hfw2); (try (have : w.heap.size < w2.heap.size := by omega)); (try (have : w.heap.size + 1 < w2.heap.size := by omega)); (try (have : w.heap.size + 1 + 1 < w2.heap.size := by omega)); (try (have : w.heap.size + 1 + 1 + 1 < w2.heap.size := by omega))
  have hO0 := ownsRow_empty w2 30 7
  have HCL := Lib.hid (fun (W : World) (hb : Below w.heap.size w W) (i j : Nat) (hi : i < n) (hj : j < 7) => show W.cell? ⟨b, off + i * 7 + j, none⟩ = some ((f i).cell j) from by
    obtain ⟨b1, o1, e1, _, hc⟩ := (HS.out.below hb) (by omega)
    obtain ⟨rfl, rfl⟩ : b = b1 ∧ off = o1 := by simpa using e1
    exact hc i j hi hj)
  have hblw2 : b < w2.heap.size := by omega
  go_wp2_with (at_builtin; refine wpList_append_rowG _ rfl _ _ 39 rfl w2.heap.size 30 i0 _ 7 56 Tryd.underlying39 hi0 hz0 hz1 hz2 rfl (by decide) _ 0 [] rfl (hO0) b off n c (fun i j => (f i).cell j) rfl ?_ (fun i j => cell_one (f i) j) (by omega) (by decide) ?_ ?_; go_must (focus (exact HCL.out _ (by repeat' (first | (with_reducible exact Below.refl _ _) | (with_reducible assumption) | (with_reducible refine Below.alloc ?_ ?_ _) | (with_reducible refine Below.drew ?_) | (with_reducible refine Below.setCell ?_ ?_ _) | (with_reducible refine Below.stepB (by assumption) ?_ ?_) | go_size)))); go_must (focus (simp; done)); intro v9 w4 hOw4 hbw4; rw [Nat.zero_add, List.nil_append] at hOw4; obtain ⟨A9, c9, rfl⟩ := ownsRow_form hOw4; have hown := own_flat hOw4; obtain ⟨b9, rfl⟩ := hown.form (by omega); have e4 := hown.at_ (i := k) (j := 4) hk (by decide); have e5 := hown.at_ (i := k) (j := 5) hk (by decide); have e6 := hown.at_ (i := k) (j := 6) hk (by decide); (have e0 := hown.at_ (i := k) (j := 0) hk (by decide); have e1 := hown.at_ (i := k) (j := 1) hk (by decide); have e2 := hown.at_ (i := k) (j := 2) hk (by decide); have e3 := hown.at_ (i := k) (j := 3) hk (by decide); simp only [Nat.add_zero] at e0); obtain ⟨hbl9, hfz9⟩ := hown.free (by omega); have hb9 := (hown.range (by omega) _ rfl).1; have HOWN := Lib.hid hown; have hbx : Below w2.heap.size w2 w4 := (by repeat' (first | (with_reducible exact Below.refl _ _) | (with_reducible assumption) | (with_reducible refine Below.alloc ?_ ?_ _) | (with_reducible refine Below.drew ?_) | (with_reducible refine Below.setCell ?_ ?_ _) | (with_reducible refine Below.stepB (by assumption) ?_ ?_) | go_size)); obtain ⟨hzx, hcx, hfx⟩ := bfacts hbx; clear hOw4 hown hbw4)
  refine (HD.out _ c9 _ (Own.sl (Own.allocd (updD_all HOWN.out) _))).mono ?_
  rintro e w6 ⟨rfl, hbw6⟩
  obtain ⟨hzw6, hcw6, hfw6⟩ := bfacts hbw6; (try simp at hzw6 hcw6 hfw6); (try (have : w.heap.size < w6.heap.size := by omega)); (try (have : w.heap.size + 1 < w6.heap.size := by omega)); (try (have : w.heap.size + 1 + 1 < w6.heap.size := by omega)); (try (have : w.heap.size + 1 + 1 + 1 < w6.heap.size := by omega))
  have HOW := Lib.hid ((Own.allocd (updD_all (k := k) (t := t) (l := l) (q := q) HOWN.out) _).below hbw6)
  cases q2
  · go_wp2
    go_ret2
    exact DgOut.none rfl (by repeat' (first | (with_reducible exact Below.refl _ _) | (with_reducible assumption) | (with_reducible refine Below.alloc ?_ ?_ _) | (with_reducible refine Below.drew ?_) | (with_reducible refine Below.setCell ?_ ?_ _) | (with_reducible refine Below.stepB (by assumption) ?_ ?_) | go_size))
  · go_wp2
    go_ret2
    exact DgOut.row rfl HOW.out (by omega) (by repeat' (first | (with_reducible exact Below.refl _ _) | (with_reducible assumption) | (with_reducible refine Below.alloc ?_ ?_ _) | (with_reducible refine Below.drew ?_) | (with_reducible refine Below.setCell ?_ ?_ _) | (with_reducible refine Below.stepB (by assumption) ?_ ?_) | go_size))
theorem see_no {f : Nat → DG} {n : Nat} {id t l q : Int} (h : (goodDAll f n && (decide (0 ≤ idDG f n id) && (!decide (t < (f (seeK f n id)).seen) && !decide ((f (seeK f n id)).quality < q)))) = false) : seeB f n id t l q = false := by
  unfold seeB
  rcases Bool.eq_false_or_eq_true (goodDAll f n) with h1 | h1 <;> rw [h1] at h ⊢
  · rcases Bool.eq_false_or_eq_true (decide (0 ≤ idDG f n id)) with h2 | h2 <;> rw [h2] at h ⊢
    · rcases Bool.eq_false_or_eq_true (decide (t < (f (seeK f n id)).seen)) with h3 | h3 <;> rw [h3] at h ⊢
      · rfl
      · rcases Bool.eq_false_or_eq_true (decide ((f (seeK f n id)).quality < q)) with h4 | h4 <;> rw [h4] at h ⊢
        · rfl
        · simp at h
    · rfl
  · rfl
theorem see_yes {f : Nat → DG} {n : Nat} {id t l q : Int} (h : (goodDAll f n && (decide (0 ≤ idDG f n id) && (!decide (t < (f (seeK f n id)).seen) && !decide ((f (seeK f n id)).quality < q)))) = true) :
    goodDAll f n = true ∧ seeK f n id < n ∧ idDG f n id = (seeK f n id : Nat) ∧ ¬ t < (f (seeK f n id)).seen ∧ ¬ (f (seeK f n id)).quality < q ∧ seeB f n id t l q = goodDAll (updD f (seeK f n id) t l q) n := by
  have h0 := h
  simp only [Bool.and_eq_true, decide_eq_true_eq, Bool.not_eq_true', decide_eq_false_iff_not] at h
  obtain ⟨h1, h2, h3, h4⟩ := h
  have hk : seeK f n id < n ∧ idDG f n id = (seeK f n id : Nat) := by
    rcases idxP_cases (fun i => decide ((f i).id = id)) n with ⟨e, _⟩ | ⟨k, hk, e, _⟩
    · change idDG f n id = -1 at e
      omega
    · change idDG f n id = k at e
      have : seeK f n id = k := by unfold seeK; rw [e]; rfl
      omega
  refine ⟨h1, hk.1, hk.2, h3, h4, ?_⟩
  unfold seeB
  rw [h1, decide_eq_true h2, decide_eq_false h3, decide_eq_false h4]
  rfl
theorem SeeAgain_any (b off n c : Nat) (f : Nat → DG) (id t l q : Int) (w : World) (hS : SlDG w (some ⟨b, off, none⟩) n f) (hn : n ≤ 1048576) :
    Calls Tryd.prog 19 #[.slice (some ⟨b, off, none⟩) n c, .int .i64 id, .int .i64 t, .int .i64 l, .int .i64 q] w
    fun e w' => DgOut w (seeN (seeB f n id t l q) n) (updD f (seeK f n id) t l q) (seeB f n id t l q) e w' := by
  rcases Bool.eq_false_or_eq_true (goodDAll f n && (decide (0 ≤ idDG f n id) && (!decide (t < (f (seeK f n id)).seen) && !decide ((f (seeK f n id)).quality < q)))) with h | h
  · obtain ⟨h1, h2, h3, h4, h5, h6⟩ := see_yes h
    rw [h6]
    exact SeeAgain_yes b off n c f id t l q _ w hS hn h1 h2 h3 h4 h5
  · refine (SeeAgain_no b off n c f id t l q w hS hn h).mono ?_
    rintro e w' ⟨A', c', rfl, hb⟩
    exact DgOut.none (see_no h) hb
theorem specSee_any (b off n c : Nat) (f : Nat → DG) (id t l q : Int) (w : World) (hS : SlDG w (some ⟨b, off, none⟩) n f) (hn : n ≤ 1048576) :
    Calls Tryd.prog 20 #[.slice (some ⟨b, off, none⟩) n c, .int .i64 id, .int .i64 t, .int .i64 l, .int .i64 q] w
    fun e w' => DgOut w (seeN (seeB f n id t l q) n) (updD f (seeK f n id) t l q) (seeB f n id t l q) e w' := by
  rcases Bool.eq_false_or_eq_true (goodDAll f n && (decide (0 ≤ idDG f n id) && (!decide (t < (f (seeK f n id)).seen) && !decide ((f (seeK f n id)).quality < q)))) with h | h
  · obtain ⟨h1, h2, h3, h4, h5, h6⟩ := see_yes h
    rw [h6]
    exact specSee_yes b off n c f id t l q _ w hS hn h1 h2 h3 h4 h5
  · refine (specSee_no b off n c f id t l q w hS hn h).mono ?_
    rintro e w' ⟨A', c', rfl, hb⟩
    exact DgOut.none (see_no h) hb
end Go.Proofs.YtclcgckledbpfaaDoor
