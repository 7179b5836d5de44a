/- Contracts: the dangers within a distance, the nearest first: the program's and the reference's. -/
import Derived.Test.YtclcgckledbpfaaDangerG
import Derived.Test.YtclcgckledbpfaaSortDG
import Derived.Test.YtclcgckledbpfaaIns2
import Derived.Test.YtclcgckledbpfaaCmp
import Derived.Test.YtclcgckledbpfaaOuts
namespace Go.Proofs.Ytclcgckledbpfaa
open Go.RowKit
def nearD (f : Nat → DG) (x y far : Int) (i : Nat) : Bool := decide (sqD (f i).x (f i).y x y ≤ far * far)
/-- nearer -/
def ltN (x y : Int) (a b : DG) : Bool := decide (sqD a.x a.y x y < sqD b.x b.y x y)
def cfN (x y : Int) (a b : DG) : Int := cmpV (sqD a.x a.y x y) (sqD b.x b.y x y)
theorem ltN_cf (x y : Int) : ltCDG (cfN x y) = ltN x y := by
  funext a b
  unfold ltCDG ltN cfN
  rw [Bool.eq_iff_iff, decide_eq_true_eq, decide_eq_true_eq]
  exact cmpV_lt
def noDG : DG := ⟨0, 0, 0, 0, 0, 0, 0⟩
/-- those near enough, and those sorted -/
def nearL (f : Nat → DG) (x y far : Int) (n : Nat) : List DG := pick (nearD f x y far) f n
def nearS (f : Nat → DG) (x y far : Int) (n : Nat) : List DG := srtL (ltN x y) noDG (nearL f x y far n)
def withOk (f : Nat → DG) (x y far : Int) (n : Nat) : Bool := goodDAll f n && (spotB x y && inB far 0 2000)
def withL (f : Nat → DG) (x y far : Int) (n : Nat) : List Int := if withOk f x y far n = true then (nearS f x y far n).map DG.id else []
theorem nearS_len (f : Nat → DG) (x y far : Int) (n : Nat) : (nearS f x y far n).length ≤ n := by
  rw [nearS, srtL_len]
  exact pick_len n
theorem withL_len (f : Nat → DG) (x y far : Int) (n : Nat) (hn : n ≤ 1048576) : (withL f x y far n).length ≤ 1048576 := by
  unfold withL
  split
  · rw [List.length_map]
    have := nearS_len f x y far n
    omega
  · simp
theorem Within_no (A : Option Addr) (n c : Nat) (f : Nat → DG) (x y far : Int) (w : World) (hS : SlDG w A n f) (hn : n ≤ 1048576) (h : withOk f x y far n = false) :
    Calls Try.prog 43 #[.slice A n c, .agg #[.int .i64 x, .int .i64 y], .int .i64 far] w fun e w' => IntsOut w [] false e w' := by
  have hA := fun W (hb : Below w.heap.size w W) => AreDangers_any A n c f W (hS.below hb) hn
  unfold withOk at h
  generalize goodDAll f n = r at h hA
  have HA := Lib.hid hA
  clear hA hS
  rcases Bool.eq_false_or_eq_true (spotB x y) with hp | hp <;> rcases Bool.eq_false_or_eq_true (inB far 0 2000) with hf | hf <;> cases r
  all_goals first | (exfalso; rw [hp, hf] at h; exact absurd h (by decide)) | skip
  all_goals
    clear h
    go_enter Try.func43, Try.ntmps43
    go_wp2_with fail
    refine (HA.out _ (by repeat' (first | (with_reducible exact Below.refl _ _) | (with_reducible assumption) | (with_reducible refine Below.alloc ?_ ?_ _) | (with_reducible refine Below.drew ?_) | (with_reducible refine Below.setCell ?_ ?_ _) | (with_reducible refine Below.stepB (by assumption) ?_ ?_) | go_size))).mono ?_
    rintro e w1 ⟨rfl, hbw1⟩
    obtain ⟨hzw1, hcw1, hfw1⟩ := bfacts hbw1; (try simp at hzw1 hcw1 hfw1); (try (have : w.heap.size < w1.heap.size := by omega)); (try (have : w.heap.size + 1 < w1.heap.size := by omega)); (try (have : w.heap.size + 1 + 1 < w1.heap.size := by omega)); (try (have : w.heap.size + 1 + 1 + 1 < w1.heap.size := by omega))
    go_wp2_with (first | (go_at_call 55; refine (IsSpot_any _ _ _).mono ?_; rintro e w2 ⟨rfl, hbw2⟩; obtain ⟨hzw2, hcw2, hfw2⟩ := bfacts hbw2; (try simp at hzw2 hcw2 hfw2); (try (have : w.heap.size < w2.heap.size := by omega)); (try (have : w.heap.size + 1 < w2.heap.size := by omega)); (try (have : w.heap.size + 1 + 1 < w2.heap.size := by omega)); (try (have : w.heap.size + 1 + 1 + 1 < w2.heap.size := by omega))) | (go_at_call 70; refine (isFar_any _ _).mono ?_; rintro e w' ⟨rfl, rfl⟩))
    go_ret2
    exact IntsOut.none rfl rfl (by repeat' (first | (with_reducible exact Below.refl _ _) | (with_reducible assumption) | (with_reducible refine Below.alloc ?_ ?_ _) | (with_reducible refine Below.drew ?_) | (with_reducible refine Below.setCell ?_ ?_ _) | (with_reducible refine Below.stepB (by assumption) ?_ ?_) | go_size))
theorem specWithin_no (A : Option Addr) (n c : Nat) (f : Nat → DG) (x y far : Int) (w : World) (hS : SlDG w A n f) (hn : n ≤ 1048576) (h : withOk f x y far n = false) :
    Calls Try.prog 41 #[.slice A n c, .agg #[.int .i64 x, .int .i64 y], .int .i64 far] w fun e w' => IntsOut w [] false e w' := by
  have hA := fun W (hb : Below w.heap.size w W) => l17Good_any A n c f W (hS.below hb) hn
  unfold withOk at h
  generalize goodDAll f n = r at h hA
  have HA := Lib.hid hA
  clear hA hS
  rcases Bool.eq_false_or_eq_true (spotB x y) with hp | hp <;> rcases Bool.eq_false_or_eq_true (inB far 0 2000) with hf | hf <;> cases r
  all_goals first | (exfalso; rw [hp, hf] at h; exact absurd h (by decide)) | skip
  all_goals
    clear h
    go_enter Try.func41, Try.ntmps41
    go_wp2_with fail
    refine (HA.out _ (by repeat' (first | (with_reducible exact Below.refl _ _) | (with_reducible assumption) | (with_reducible refine Below.alloc ?_ ?_ _) | (with_reducible refine Below.drew ?_) | (with_reducible refine Below.setCell ?_ ?_ _) | (with_reducible refine Below.stepB (by assumption) ?_ ?_) | go_size))).mono ?_
    rintro e w1 ⟨rfl, hbw1⟩
    obtain ⟨hzw1, hcw1, hfw1⟩ := bfacts hbw1; (try simp at hzw1 hcw1 hfw1); (try (have : w.heap.size < w1.heap.size := by omega)); (try (have : w.heap.size + 1 < w1.heap.size := by omega)); (try (have : w.heap.size + 1 + 1 < w1.heap.size := by omega)); (try (have : w.heap.size + 1 + 1 + 1 < w1.heap.size := by omega))
    go_wp2_with (first | (go_at_call 72; refine (l2Spot_any _ _ _).mono ?_; rintro e w2 ⟨rfl, hbw2⟩; obtain ⟨hzw2, hcw2, hfw2⟩ := bfacts hbw2; (try simp at hzw2 hcw2 hfw2); (try (have : w.heap.size < w2.heap.size := by omega)); (try (have : w.heap.size + 1 < w2.heap.size := by omega)); (try (have : w.heap.size + 1 + 1 < w2.heap.size := by omega)); (try (have : w.heap.size + 1 + 1 + 1 < w2.heap.size := by omega))) | (go_at_call 68; refine (l17Far_any _ _).mono ?_; rintro e w' ⟨rfl, rfl⟩))
    go_ret2
    exact IntsOut.none rfl rfl (by repeat' (first | (with_reducible exact Below.refl _ _) | (with_reducible assumption) | (with_reducible refine Below.alloc ?_ ?_ _) | (with_reducible refine Below.drew ?_) | (with_reducible refine Below.setCell ?_ ?_ _) | (with_reducible refine Below.stepB (by assumption) ?_ ?_) | go_size))
theorem within_cmp (x y : Int) (a b : DG) (B : Nat) (w : World) (hB : B < w.heap.size) (h0 : w.cell? ⟨B, 0, none⟩ = some (.int .i64 x)) (h1 : w.cell? ⟨B, 1, none⟩ = some (.int .i64 y)) (ha : okD a = true) (hb : okD b = true) (hp : spotB x y = true) :
    Calls Try.prog 74 #[.agg #[.int .i64 a.id, .int .i64 a.kind, .int .i64 a.x, .int .i64 a.y, .int .i64 a.least, .int .i64 a.quality, .int .i64 a.seen], .agg #[.int .i64 b.id, .int .i64 b.kind, .int .i64 b.x, .int .i64 b.y, .int .i64 b.least, .int .i64 b.quality, .int .i64 b.seen], .pointer (some ⟨B, 0, none⟩)] w fun e w' => e = .returned (.int .i64 (cfN x y a b)) ∧ Below w.heap.size w w' := by
  have HA := Lib.hid (fun W => squareOf_any a.x a.y x y W (okD_spot ha) hp)
  have HB := Lib.hid (fun W => squareOf_any b.x b.y x y W (okD_spot hb) hp)
  have HC := Lib.hid (fun W => cmpInt_any (sqD a.x a.y x y) (sqD b.x b.y x y) W)
  unfold cfN
  generalize sqD a.x a.y x y = s1 at HA HC ⊢
  generalize sqD b.x b.y x y = s2 at HB HC ⊢
  generalize cmpV s1 s2 = z at HC ⊢
  clear ha hb hp
  have hB1 : B < w.heap.size + 1 + 1 := by omega
  go_enter Try.func74, Try.ntmps74
  go_wp2
  refine wp_region_later (by kernel_rfl) (by kernel_rfl) (fun hlx => ?_)
  repeat (go_big_quiet_step ((first | (go_at_call 71; with_reducible exact Later.call (HA.out _)) | (go_at_call 71; with_reducible exact Later.call (HB.out _)) | (go_at_call 75; exact Later.same (HC.out _)))))
  refine wpQuiet_nil ?_
  clear hlx
  intro w3 hbw3
  obtain ⟨hzw3, hcw3, hfw3⟩ := bfacts hbw3; (try simp at hzw3 hcw3 hfw3); (try (have : w.heap.size < w3.heap.size := by omega)); (try (have : w.heap.size + 1 < w3.heap.size := by omega)); (try (have : w.heap.size + 1 + 1 < w3.heap.size := by omega)); (try (have : w.heap.size + 1 + 1 + 1 < w3.heap.size := by omega))
  go_wp2
  go_ret
  exact ⟨rfl, by repeat' (first | (with_reducible exact Below.refl _ _) | (with_reducible assumption) | (with_reducible refine Below.alloc ?_ ?_ _) | (with_reducible refine Below.drew ?_) | (with_reducible refine Below.setCell ?_ ?_ _) | (with_reducible refine Below.stepB (by assumption) ?_ ?_) | go_size)⟩
theorem enters_within : ∀ args w, (callFunc 74 args).run Try.prog w = .ok (.enter 74 args) w := enters_of Try.func74 (by kernel_rfl) rfl
def dgList (s : DG) : List Value := [.int .i64 s.id, .int .i64 s.kind, .int .i64 s.x, .int .i64 s.y, .int .i64 s.least, .int .i64 s.quality, .int .i64 s.seen]
def dgCells (L : List DG) : List Value := L.flatMap dgList
theorem dgCells_snoc (L : List DG) (s : DG) : dgCells (L ++ [s]) = dgCells L ++ dgList s := by simp [dgCells]
theorem dgCells_get : ∀ (L : List DG) (i j : Nat), i < L.length → j < 7 → (dgCells L)[i * 7 + j]? = some ((L.getD i noDG).cell j)
  | [], i, j, h, _ => absurd h (by simp)
  | p :: L, 0, j, _, hj => by
    have : j = 0 ∨ j = 1 ∨ j = 2 ∨ j = 3 ∨ j = 4 ∨ j = 5 ∨ j = 6 := by omega
    rcases this with rfl | rfl | rfl | rfl | rfl | rfl | rfl <;> simp [dgCells, dgList, DG.cell]
  | p :: L, i + 1, j, h, hj => by
    have ih := dgCells_get L i j (by simp at h; omega) hj
    have e : (i + 1) * 7 + j = (i * 7 + j) + 7 := by omega
    rw [e]
    simpa [dgCells, dgList] using ih
theorem ownDG_of {w : World} {base : Nat} {e : TypeId} {A : Option Addr} {n c : Nat} {L : List DG} (hn : n = L.length) (h : w.ownsRow base e 7 (.slice A n c) n (dgCells L)) : Own w base 7 A n (fun i j => (L.getD i noDG).cell j) := by
  subst hn
  exact ownsRow_own h (fun i j hi hj => dgCells_get L i j hi hj)
theorem dg_flat (s : DG) : flatG 7 (fun _ j => s.cell j) 1 = dgList s := by simp [flatG, dgList, DG.cell, List.range_succ, List.range_zero]
theorem owns_dg {w : World} {base : Nat} {e : TypeId} {v : Value} {L : List DG} {z : DG} (h : w.ownsRow base e 7 v (L.length + 1) (dgCells L ++ flatG 7 (fun _ j => z.cell j) 1)) : w.ownsRow base e 7 v (L ++ [z]).length (dgCells (L ++ [z])) := by
  rw [dgCells_snoc, ← dg_flat]; simpa using h
end Go.Proofs.Ytclcgckledbpfaa
