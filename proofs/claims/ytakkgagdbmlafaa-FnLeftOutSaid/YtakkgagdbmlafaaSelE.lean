/- Contracts: which soundings are not stood for; safe or not; the depths shown: the program's and the reference's. -/
import Derived.Test.YtakkgagdbmlafaaSelD
import Derived.Test.YtakkgagdbmlafaaAway
namespace Go.Proofs.Ytakkgagdbmlafaa
open Go.RowKit
theorem ask_parts {f : Nat → SD} {n : Nat} {L : Nat → Int} {m : Nat} {r : Int} (h : askB f n L m r = true) : goodNAll f n = true ∧ fndB f n L m = true ∧ inB r 1 1000 = true ∧ selB f n L m = true := by
  simp only [askB, Bool.and_eq_true] at h
  obtain ⟨h1, _, h2⟩ := selB_parts h.1
  exact ⟨h1, h2, h.2, h.1⟩
theorem ask_of {f : Nat → SD} {n : Nat} {L : Nat → Int} {m : Nat} {r : Int} (h : selB f n L m = true) (hr : inB r 1 1000 = true) : askB f n L m r = true := by simp [askB, h, hr]
theorem len0 (n : Nat) : ((n : Int) == 0) = (true && decide (n = 0)) := by rw [Bool.eq_iff_iff]; simp
/-- safe or not, and asked well -/
def safeOut (f : Nat → SD) (n : Nat) (L : Nat → Int) (m : Nat) (r : Int) : Bool := askB f n L m r && decide ((openL f n L m r).length = 0)
def openO (f : Nat → SD) (n : Nat) (L : Nat → Int) (m : Nat) (r : Int) : List Int := if askB f n L m r = true then openL f n L m r else []
theorem openO_len (f : Nat → SD) (n : Nat) (L : Nat → Int) (m : Nat) (r : Int) : (openO f n L m r).length ≤ n := by
  unfold openO
  split
  · exact openL_len f n L m r
  · simp
theorem IsSafe_any (A : Option Addr) (n c : Nat) (f : Nat → SD) (A2 : Option Addr) (n2 c2 : Nat) (L2 : Nat → Int) (r : Int) (w : World) (hS : SlSD w A n f) (hS2 : SlI w A2 n2 L2) (hn : n ≤ 1048576) (hn2 : n2 ≤ 1048576) :
    Calls Try.prog 28 #[.slice A n c, .slice A2 n2 c2, .int .i64 r] w fun e w' => e = .returned (.tuple #[.bool (safeOut f n L2 n2 r), .bool (askB f n L2 n2 r)]) ∧ Below w.heap.size w w' := by
  have hg := Lib.hid (fun W (hb : Below w.heap.size w W) => IsSelection_any A n c f A2 n2 c2 L2 W (hS.below hb) (hS2.below hb) hn hn2)
  have ht := Lib.hid (fun W (hb : Below w.heap.size w W) (h : askB f n L2 n2 r = true) => notStoodFor_any A n c f A2 n2 c2 L2 r W (hS.below hb) (hS2.below hb) hn hn2 (ask_parts h).1 (ask_parts h).2.1 (ask_parts h).2.2.1)
  have hq : askB f n L2 n2 r = (selB f n L2 n2 && inB r 1 1000) := rfl
  unfold safeOut
  rw [← openS_len]
  clear hS hS2
  generalize openS f n L2 n2 r = t at ht ⊢
  generalize askB f n L2 n2 r = qq at ht hq ⊢
  generalize selB f n L2 n2 = q at hg hq
  rcases Bool.eq_false_or_eq_true (inB r 1 1000) with hr | hr <;> cases q <;> (rw [hr] at hq; simp only [Bool.and_self, Bool.and_true, Bool.and_false] at hq; subst hq)
  · go_enter Try.func28, Try.ntmps28
    go_wp2_with fail
    refine (hg.out _ (by repeat' (first | (with_reducible exact Below.refl _ _) | (with_reducible assumption) | (with_reducible refine Below.alloc ?_ ?_ _) | (with_reducible refine Below.drew ?_) | (with_reducible refine Below.setCell ?_ ?_ _) | (with_reducible refine Below.stepB (by assumption) ?_ ?_) | go_size))).mono ?_
    rintro e w1 ⟨rfl, hbw1⟩
    obtain ⟨hzw1, hcw1, hfw1⟩ := bfacts hbw1; (try simp at hzw1 hcw1 hfw1); (try (have : w.heap.size < w1.heap.size := by omega)); (try (have : w.heap.size + 1 < w1.heap.size := by omega)); (try (have : w.heap.size + 1 + 1 < w1.heap.size := by omega)); (try (have : w.heap.size + 1 + 1 + 1 < w1.heap.size := by omega))
    go_wp2
    go_ret2
    exact ⟨by simp, by repeat' (first | (with_reducible exact Below.refl _ _) | (with_reducible assumption) | (with_reducible refine Below.alloc ?_ ?_ _) | (with_reducible refine Below.drew ?_) | (with_reducible refine Below.setCell ?_ ?_ _) | (with_reducible refine Below.stepB (by assumption) ?_ ?_) | go_size)⟩
  · go_enter Try.func28, Try.ntmps28
    go_wp2_with fail
    refine (hg.out _ (by repeat' (first | (with_reducible exact Below.refl _ _) | (with_reducible assumption) | (with_reducible refine Below.alloc ?_ ?_ _) | (with_reducible refine Below.drew ?_) | (with_reducible refine Below.setCell ?_ ?_ _) | (with_reducible refine Below.stepB (by assumption) ?_ ?_) | go_size))).mono ?_
    rintro e w1 ⟨rfl, hbw1⟩
    obtain ⟨hzw1, hcw1, hfw1⟩ := bfacts hbw1; (try simp at hzw1 hcw1 hfw1); (try (have : w.heap.size < w1.heap.size := by omega)); (try (have : w.heap.size + 1 < w1.heap.size := by omega)); (try (have : w.heap.size + 1 + 1 < w1.heap.size := by omega)); (try (have : w.heap.size + 1 + 1 + 1 < w1.heap.size := by omega))
    go_wp2_with (go_at_call 59; refine (isRadius_any _ _).mono ?_; rintro e w' ⟨rfl, rfl⟩)
    refine (ht.out _ (by repeat' (first | (with_reducible exact Below.refl _ _) | (with_reducible assumption) | (with_reducible refine Below.alloc ?_ ?_ _) | (with_reducible refine Below.drew ?_) | (with_reducible refine Below.setCell ?_ ?_ _) | (with_reducible refine Below.stepB (by assumption) ?_ ?_) | go_size)) (by first | trivial | assumption)).mono ?_
    rintro e w2 ⟨A', c', rfl, -, hbw2⟩
    obtain ⟨hzw2, hcw2, hfw2⟩ := bfacts hbw2; (try simp at hzw2 hcw2 hfw2); (try (have : w.heap.size < w2.heap.size := by omega)); (try (have : w.heap.size + 1 < w2.heap.size := by omega)); (try (have : w.heap.size + 1 + 1 < w2.heap.size := by omega)); (try (have : w.heap.size + 1 + 1 + 1 < w2.heap.size := by omega))
    go_wp2
    go_ret2
    refine ⟨?_, by repeat' (first | (with_reducible exact Below.refl _ _) | (with_reducible assumption) | (with_reducible refine Below.alloc ?_ ?_ _) | (with_reducible refine Below.drew ?_) | (with_reducible refine Below.setCell ?_ ?_ _) | (with_reducible refine Below.stepB (by assumption) ?_ ?_) | go_size)⟩
    show Ending.returned (.tuple #[.bool ((t.length : Int) == 0), .bool true]) = _
    rw [len0]
  all_goals
    go_enter Try.func28, Try.ntmps28
    go_wp2_with fail
    refine (hg.out _ (by repeat' (first | (with_reducible exact Below.refl _ _) | (with_reducible assumption) | (with_reducible refine Below.alloc ?_ ?_ _) | (with_reducible refine Below.drew ?_) | (with_reducible refine Below.setCell ?_ ?_ _) | (with_reducible refine Below.stepB (by assumption) ?_ ?_) | go_size))).mono ?_
    rintro e w1 ⟨rfl, hbw1⟩
    obtain ⟨hzw1, hcw1, hfw1⟩ := bfacts hbw1; (try simp at hzw1 hcw1 hfw1); (try (have : w.heap.size < w1.heap.size := by omega)); (try (have : w.heap.size + 1 < w1.heap.size := by omega)); (try (have : w.heap.size + 1 + 1 < w1.heap.size := by omega)); (try (have : w.heap.size + 1 + 1 + 1 < w1.heap.size := by omega))
    go_wp2_with (go_at_call 59; refine (isRadius_any _ _).mono ?_; rintro e w' ⟨rfl, rfl⟩)
    go_ret2
    exact ⟨by simp, by repeat' (first | (with_reducible exact Below.refl _ _) | (with_reducible assumption) | (with_reducible refine Below.alloc ?_ ?_ _) | (with_reducible refine Below.drew ?_) | (with_reducible refine Below.setCell ?_ ?_ _) | (with_reducible refine Below.stepB (by assumption) ?_ ?_) | go_size)⟩
theorem specIsSafe_any (A : Option Addr) (n c : Nat) (f : Nat → SD) (A2 : Option Addr) (n2 c2 : Nat) (L2 : Nat → Int) (r : Int) (w : World) (hS : SlSD w A n f) (hS2 : SlI w A2 n2 L2) (hn : n ≤ 1048576) (hn2 : n2 ≤ 1048576) :
    Calls Try.prog 33 #[.slice A n c, .slice A2 n2 c2, .int .i64 r] w fun e w' => e = .returned (.tuple #[.bool (safeOut f n L2 n2 r), .bool (askB f n L2 n2 r)]) ∧ Below w.heap.size w w' := by
  have hg := Lib.hid (fun W (hb : Below w.heap.size w W) => l16Asked_any A n c f A2 n2 c2 L2 r W (hS.below hb) (hS2.below hb) hn hn2)
  have ht := Lib.hid (fun W (hb : Below w.heap.size w W) (h : askB f n L2 n2 r = true) => l16Open_any A n c f A2 n2 c2 L2 r W (hS.below hb) (hS2.below hb) hn hn2 (ask_parts h).1 (ask_parts h).2.1 (ask_parts h).2.2.1)
  unfold safeOut
  clear hS hS2
  generalize openL f n L2 n2 r = t at ht ⊢
  generalize askB f n L2 n2 r = q at hg ht ⊢
  cases q
  · go_enter Try.func33, Try.ntmps33
    go_wp2_with fail
    refine (hg.out _ (by repeat' (first | (with_reducible exact Below.refl _ _) | (with_reducible assumption) | (with_reducible refine Below.alloc ?_ ?_ _) | (with_reducible refine Below.drew ?_) | (with_reducible refine Below.setCell ?_ ?_ _) | (with_reducible refine Below.stepB (by assumption) ?_ ?_) | go_size))).mono ?_
    rintro e w1 ⟨rfl, hbw1⟩
    obtain ⟨hzw1, hcw1, hfw1⟩ := bfacts hbw1; (try simp at hzw1 hcw1 hfw1); (try (have : w.heap.size < w1.heap.size := by omega)); (try (have : w.heap.size + 1 < w1.heap.size := by omega)); (try (have : w.heap.size + 1 + 1 < w1.heap.size := by omega)); (try (have : w.heap.size + 1 + 1 + 1 < w1.heap.size := by omega))
    go_wp2
    go_ret2
    exact ⟨by simp, by repeat' (first | (with_reducible exact Below.refl _ _) | (with_reducible assumption) | (with_reducible refine Below.alloc ?_ ?_ _) | (with_reducible refine Below.drew ?_) | (with_reducible refine Below.setCell ?_ ?_ _) | (with_reducible refine Below.stepB (by assumption) ?_ ?_) | go_size)⟩
  · go_enter Try.func33, Try.ntmps33
    go_wp2_with fail
    refine (hg.out _ (by repeat' (first | (with_reducible exact Below.refl _ _) | (with_reducible assumption) | (with_reducible refine Below.alloc ?_ ?_ _) | (with_reducible refine Below.drew ?_) | (with_reducible refine Below.setCell ?_ ?_ _) | (with_reducible refine Below.stepB (by assumption) ?_ ?_) | go_size))).mono ?_
    rintro e w1 ⟨rfl, hbw1⟩
    obtain ⟨hzw1, hcw1, hfw1⟩ := bfacts hbw1; (try simp at hzw1 hcw1 hfw1); (try (have : w.heap.size < w1.heap.size := by omega)); (try (have : w.heap.size + 1 < w1.heap.size := by omega)); (try (have : w.heap.size + 1 + 1 < w1.heap.size := by omega)); (try (have : w.heap.size + 1 + 1 + 1 < w1.heap.size := by omega))
    go_wp2_with fail
    refine (ht.out _ (by repeat' (first | (with_reducible exact Below.refl _ _) | (with_reducible assumption) | (with_reducible refine Below.alloc ?_ ?_ _) | (with_reducible refine Below.drew ?_) | (with_reducible refine Below.setCell ?_ ?_ _) | (with_reducible refine Below.stepB (by assumption) ?_ ?_) | go_size)) (by first | trivial | assumption)).mono ?_
    rintro e w2 ⟨A', c', rfl, -, hbw2⟩
    obtain ⟨hzw2, hcw2, hfw2⟩ := bfacts hbw2; (try simp at hzw2 hcw2 hfw2); (try (have : w.heap.size < w2.heap.size := by omega)); (try (have : w.heap.size + 1 < w2.heap.size := by omega)); (try (have : w.heap.size + 1 + 1 < w2.heap.size := by omega)); (try (have : w.heap.size + 1 + 1 + 1 < w2.heap.size := by omega))
    go_wp2
    go_ret2
    refine ⟨?_, by repeat' (first | (with_reducible exact Below.refl _ _) | (with_reducible assumption) | (with_reducible refine Below.alloc ?_ ?_ _) | (with_reducible refine Below.drew ?_) | (with_reducible refine Below.setCell ?_ ?_ _) | (with_reducible refine Below.stepB (by assumption) ?_ ?_) | go_size)⟩
    show Ending.returned (.tuple #[.bool ((t.length : Int) == 0), .bool true]) = _
    rw [len0]
theorem specNotStood_any (A : Option Addr) (n c : Nat) (f : Nat → SD) (A2 : Option Addr) (n2 c2 : Nat) (L2 : Nat → Int) (r : Int) (w : World) (hS : SlSD w A n f) (hS2 : SlI w A2 n2 L2) (hn : n ≤ 1048576) (hn2 : n2 ≤ 1048576) :
    Calls Try.prog 32 #[.slice A n c, .slice A2 n2 c2, .int .i64 r] w fun e w' => IntsOut w (openO f n L2 n2 r) (askB f n L2 n2 r) e w' := by
  have hg := Lib.hid (fun W (hb : Below w.heap.size w W) => l16Asked_any A n c f A2 n2 c2 L2 r W (hS.below hb) (hS2.below hb) hn hn2)
  have ht := Lib.hid (fun W (hb : Below w.heap.size w W) (h : askB f n L2 n2 r = true) => l16Open_any A n c f A2 n2 c2 L2 r W (hS.below hb) (hS2.below hb) hn hn2 (ask_parts h).1 (ask_parts h).2.1 (ask_parts h).2.2.1)
  have ho : openO f n L2 n2 r = if askB f n L2 n2 r = true then openL f n L2 n2 r else [] := rfl
  clear hS hS2
  generalize openO f n L2 n2 r = o at ho ⊢
  generalize openL f n L2 n2 r = t at ht ho
  generalize askB f n L2 n2 r = q at hg ht ho ⊢
  cases q
  · have HO : Hid (o = []) := ho
    clear ho
    go_enter Try.func32, Try.ntmps32
    go_wp2_with fail
    refine (hg.out _ (by repeat' (first | (with_reducible exact Below.refl _ _) | (with_reducible assumption) | (with_reducible refine Below.alloc ?_ ?_ _) | (with_reducible refine Below.drew ?_) | (with_reducible refine Below.setCell ?_ ?_ _) | (with_reducible refine Below.stepB (by assumption) ?_ ?_) | go_size))).mono ?_
    rintro e w1 ⟨rfl, hbw1⟩
    obtain ⟨hzw1, hcw1, hfw1⟩ := bfacts hbw1; (try simp at hzw1 hcw1 hfw1); (try (have : w.heap.size < w1.heap.size := by omega)); (try (have : w.heap.size + 1 < w1.heap.size := by omega)); (try (have : w.heap.size + 1 + 1 < w1.heap.size := by omega)); (try (have : w.heap.size + 1 + 1 + 1 < w1.heap.size := by omega))
    go_wp2
    go_ret2
    exact IntsOut.none HO.out rfl (by repeat' (first | (with_reducible exact Below.refl _ _) | (with_reducible assumption) | (with_reducible refine Below.alloc ?_ ?_ _) | (with_reducible refine Below.drew ?_) | (with_reducible refine Below.setCell ?_ ?_ _) | (with_reducible refine Below.stepB (by assumption) ?_ ?_) | go_size))
  · have HO : Hid (o = t) := ho
    clear ho
    go_enter Try.func32, Try.ntmps32
    go_wp2_with fail
    refine (hg.out _ (by repeat' (first | (with_reducible exact Below.refl _ _) | (with_reducible assumption) | (with_reducible refine Below.alloc ?_ ?_ _) | (with_reducible refine Below.drew ?_) | (with_reducible refine Below.setCell ?_ ?_ _) | (with_reducible refine Below.stepB (by assumption) ?_ ?_) | go_size))).mono ?_
    rintro e w1 ⟨rfl, hbw1⟩
    obtain ⟨hzw1, hcw1, hfw1⟩ := bfacts hbw1; (try simp at hzw1 hcw1 hfw1); (try (have : w.heap.size < w1.heap.size := by omega)); (try (have : w.heap.size + 1 < w1.heap.size := by omega)); (try (have : w.heap.size + 1 + 1 < w1.heap.size := by omega)); (try (have : w.heap.size + 1 + 1 + 1 < w1.heap.size := by omega))
    go_wp2_with fail
    refine (ht.out _ (by repeat' (first | (with_reducible exact Below.refl _ _) | (with_reducible assumption) | (with_reducible refine Below.alloc ?_ ?_ _) | (with_reducible refine Below.drew ?_) | (with_reducible refine Below.setCell ?_ ?_ _) | (with_reducible refine Below.stepB (by assumption) ?_ ?_) | go_size)) (by first | trivial | assumption)).mono ?_
    rintro e w2 ⟨A', c', rfl, hT, hbw2⟩
    obtain ⟨hzw2, hcw2, hfw2⟩ := bfacts hbw2; (try simp at hzw2 hcw2 hfw2); (try (have : w.heap.size < w2.heap.size := by omega)); (try (have : w.heap.size + 1 < w2.heap.size := by omega)); (try (have : w.heap.size + 1 + 1 < w2.heap.size := by omega)); (try (have : w.heap.size + 1 + 1 + 1 < w2.heap.size := by omega))
    have HT := Lib.hid hT
    clear hT
    go_wp2
    go_ret2
    rw [HO.out]
    exact ⟨_, _, rfl, HT.out.more (by omega), by repeat' (first | (with_reducible exact Below.refl _ _) | (with_reducible assumption) | (with_reducible refine Below.alloc ?_ ?_ _) | (with_reducible refine Below.drew ?_) | (with_reducible refine Below.setCell ?_ ?_ _) | (with_reducible refine Below.stepB (by assumption) ?_ ?_) | go_size)⟩
/-- the numbers h of the first k of a list -/
def mapTo {α : Type} (L : List α) (d : α) (h : α → Int) (k : Nat) : List Int := pick (fun _ => true) (fun i => h (L.getD i d)) k
theorem mapTo_all {α : Type} (L : List α) (d : α) (h : α → Int) : mapTo L d h L.length = L.map h := by
  have key : ∀ k, k ≤ L.length → mapTo L d h k = (L.take k).map h := by
    intro k
    induction k with
    | zero => intro _; rfl
    | succ k ih =>
      intro hk
      have e := ih (by omega)
      unfold mapTo at e ⊢
      rw [pick_hit (p := fun _ => true) rfl, e, List.take_succ_eq_append_getElem (by omega), List.map_append]
      simp [List.getD, show k < L.length from by omega]
  rw [key _ (Nat.le_refl _), List.take_length]
theorem mapTo_len {α : Type} (L : List α) (d : α) (h : α → Int) (k : Nat) : (mapTo L d h k).length ≤ k := pick_len k
theorem mapTo_snoc {α : Type} (L : List α) (d : α) (h : α → Int) (k : Nat) : mapTo L d h (k + 1) = mapTo L d h k ++ [h (L.getD k d)] := pick_hit rfl
set_option maxHeartbeats 1000000 in
theorem NotStoodFor_any (A : Option Addr) (n c : Nat) (f : Nat → SD) (A2 : Option Addr) (n2 c2 : Nat) (L2 : Nat → Int) (r : Int) (w : World) (hS : SlSD w A n f) (hS2 : SlI w A2 n2 L2) (hn : n ≤ 1048576) (hn2 : n2 ≤ 1048576) :
    Calls Try.prog 31 #[.slice A n c, .slice A2 n2 c2, .int .i64 r] w fun e w' => IntsOut w (openO f n L2 n2 r) (askB f n L2 n2 r) e w' := by
  have hg := Lib.hid (fun W (hb : Below w.heap.size w W) => IsSelection_any A n c f A2 n2 c2 L2 W (hS.below hb) (hS2.below hb) hn hn2)
  have ht := Lib.hid (fun W (hb : Below w.heap.size w W) (h : askB f n L2 n2 r = true) => notStoodFor_any A n c f A2 n2 c2 L2 r W (hS.below hb) (hS2.below hb) hn hn2 (ask_parts h).1 (ask_parts h).2.1 (ask_parts h).2.2.1)
  have hq : askB f n L2 n2 r = (selB f n L2 n2 && inB r 1 1000) := rfl
  have ho : openO f n L2 n2 r = if askB f n L2 n2 r = true then (openS f n L2 n2 r).map SD.id else [] := by rw [openS_ids]; rfl
  have hlen : (openS f n L2 n2 r).length ≤ 1048576 := by rw [openS_len]; exact Nat.le_trans (openL_len f n L2 n2 r) hn
  clear hS hS2
  generalize openO f n L2 n2 r = o at ho ⊢
  generalize openS f n L2 n2 r = t at ht ho hlen
  generalize askB f n L2 n2 r = qq at ht hq ho ⊢
  generalize selB f n L2 n2 = q at hg hq
  obtain ⟨i0, hi0, hz0, hz1, hz2⟩ := info_parts int_info
  rcases Bool.eq_false_or_eq_true (inB r 1 1000) with hr | hr <;> cases q <;> (rw [hr] at hq; simp only [Bool.and_self, Bool.and_true, Bool.and_false] at hq; subst hq)
  rotate_left
  · have HO : Hid (o = t.map SD.id) := ho
    clear ho
    go_enter Try.func31, Try.ntmps31
    go_wp2_with fail
    refine (hg.out _ (by repeat' (first | (with_reducible exact Below.refl _ _) | (with_reducible assumption) | (with_reducible refine Below.alloc ?_ ?_ _) | (with_reducible refine Below.drew ?_) | (with_reducible refine Below.setCell ?_ ?_ _) | (with_reducible refine Below.stepB (by assumption) ?_ ?_) | go_size))).mono ?_
    rintro e w1 ⟨rfl, hbw1⟩
    obtain ⟨hzw1, hcw1, hfw1⟩ := bfacts hbw1; (try simp at hzw1 hcw1 hfw1); (try (have : w.heap.size < w1.heap.size := by omega)); (try (have : w.heap.size + 1 < w1.heap.size := by omega)); (try (have : w.heap.size + 1 + 1 < w1.heap.size := by omega)); (try (have : w.heap.size + 1 + 1 + 1 < w1.heap.size := by omega))
    go_wp2_with (go_at_call 59; refine (isRadius_any _ _).mono ?_; rintro e w' ⟨rfl, rfl⟩)
    refine (ht.out _ (by repeat' (first | (with_reducible exact Below.refl _ _) | (with_reducible assumption) | (with_reducible refine Below.alloc ?_ ?_ _) | (with_reducible refine Below.drew ?_) | (with_reducible refine Below.setCell ?_ ?_ _) | (with_reducible refine Below.stepB (by assumption) ?_ ?_) | go_size)) (by first | trivial | assumption)).mono ?_
    rintro e w2 ⟨A', c', rfl, hT, hbw2⟩
    obtain ⟨hzw2, hcw2, hfw2⟩ := bfacts hbw2; (try simp at hzw2 hcw2 hfw2); (try (have : w.heap.size < w2.heap.size := by omega)); (try (have : w.heap.size + 1 < w2.heap.size := by omega)); (try (have : w.heap.size + 1 + 1 < w2.heap.size := by omega)); (try (have : w.heap.size + 1 + 1 + 1 < w2.heap.size := by omega))
    have hSl : SlSD w2 A' t.length (fun i => t.getD i noSD) := hT.sl
    have hex : ∃ S : Nat → SD, (fun i => t.getD i noSD) = S := ⟨_, rfl⟩
    obtain ⟨S, hS0⟩ := hex
    rw [hS0] at hSl
    have HT := Lib.hid hSl
    have HR := Lib.hid hT.range
    have HS0 : Hid (t.map SD.id = pick (fun _ => true) (fun i => (S i).id) t.length) := by
      show _ = _
      rw [← mapTo_all t noSD SD.id, mapTo]
      exact pick_congr _ (fun _ _ => rfl) (fun i _ => by rw [← hS0])
    have hO0 := ownsRow_below (ownsRow_empty w1 3 1) hbw2
    clear hT hSl hS0
    go_wp2
    go_loopw [8, 26] (fun v8 vc wr => ∃ k : Nat, k ≤ t.length ∧ vc = .int .i64 k ∧ wr.ownsRow w1.heap.size 3 1 v8 (pick (fun _ => true) (fun i => (S i).id) k).length ((pick (fun _ => true) (fun i => (S i).id) k).map (Value.int .i64)) ∧ AwayRow v8 (w1.heap.size + 1) w2.heap.size ∧ (∀ b, w1.heap.size + 1 ≤ b → b < w2.heap.size → wr.heap[b]? = w2.heap[b]?) ∧ w2.heap.size ≤ wr.heap.size ∧ Below w.heap.size w wr) (fun _ vc _ => t.length - (intOf vc).toNat)
    case atStart => exact ⟨0, Nat.zero_le _, rfl, hO0, AwayRow.at (.inl (Nat.lt_succ_self _)) rfl, fun _ _ _ => rfl, Nat.le_refl _, by repeat' (first | (with_reducible exact Below.refl _ _) | (with_reducible assumption) | (with_reducible refine Below.alloc ?_ ?_ _) | (with_reducible refine Below.drew ?_) | (with_reducible refine Below.setCell ?_ ?_ _) | (with_reducible refine Below.stepB (by assumption) ?_ ?_) | go_size)⟩
    case round =>
      clear hO0
      obtain ⟨k, hk, rfl, hO, haw, hbl0, hzr, hbr⟩ := hrel
      have HBL := Lib.hid hbl0
      have HAW := Lib.hid haw
      clear hbl0 haw
      have hlen2 := pick_len (p := fun _ => true) (h := fun i => (S i).id) k
      obtain ⟨A8, c8, rfl⟩ := ownsRow_form hO
      have HO8 := Lib.hid hO
      clear hO
      by_cases hlt : k < t.length
      · obtain ⟨b, off, rfl, hbl, -, c0, c1, c2, c3, c4, hc⟩ := HT.out.at (Below.refl _ _) hlt
        have hr2 := HR.out (by omega) _ rfl
        have eb : ∀ o, wr.cell? ⟨b, o, none⟩ = w2.cell? ⟨b, o, none⟩ := fun o => World.cell?_of_block (a := ⟨b, o, none⟩) (HBL.out b (by simpa using hr2.1) hbl)
        rw [← eb] at c0 c1 c2 c3 c4
        have hbl2 : b < wr.heap.size := by omega
        clear hc eb
        go_wp2_with (at_builtin; refine wpList_append_int1_away _ rfl _ _ 23 rfl w1.heap.size 3 i0 Try.underlying23 hi0 hz0 hz1 hz2 _ _ _ rfl ((HO8.out.alloc _).alloc _) _ _ (HAW.out) ?_ _ _ ((S k).id) rfl ?_ ?_ ?_ ?_; go_must (focus (simp; omega)); go_must (focus (simp; done)); go_must (focus omega); go_must (focus (simp; omega)); intro v9 w4 hOw4 hbw4 haw4 hblw4; have hzw4 := hbw4.size; (try simp at hzw4))
        go_roundw
        case rel =>
          refine ⟨k + 1, by omega, by go_num, by rw [pick_hit rfl]; exact owns_snoc hOw4, haw4, fun b' h1 h2 => ?_, by omega, by repeat' (first | (with_reducible exact Below.refl _ _) | (with_reducible assumption) | (with_reducible refine Below.alloc ?_ ?_ _) | (with_reducible refine Below.drew ?_) | (with_reducible refine Below.setCell ?_ ?_ _) | (with_reducible refine Below.stepB (by assumption) ?_ ?_) | go_size)⟩
          refine (hblw4 b' h1 h2).trans (Eq.trans ?_ (HBL.out b' h1 h2))
          exact (Below.heap_alloc _ _ _ (by simp; omega)).trans (Below.heap_alloc _ _ _ (by omega))
        case measure => simp [intOf]; omega
      · obtain rfl : k = t.length := by omega
        go_wp2
        go_ret2
        exact IntsOut.row HO8.out (by rw [HO.out, HS0.out]) rfl (by omega) hbr
  all_goals
    have HO : Hid (o = []) := ho
    clear ho
    go_enter Try.func31, Try.ntmps31
    go_wp2_with fail
    refine (hg.out _ (by repeat' (first | (with_reducible exact Below.refl _ _) | (with_reducible assumption) | (with_reducible refine Below.alloc ?_ ?_ _) | (with_reducible refine Below.drew ?_) | (with_reducible refine Below.setCell ?_ ?_ _) | (with_reducible refine Below.stepB (by assumption) ?_ ?_) | go_size))).mono ?_
    rintro e w1 ⟨rfl, hbw1⟩
    obtain ⟨hzw1, hcw1, hfw1⟩ := bfacts hbw1; (try simp at hzw1 hcw1 hfw1); (try (have : w.heap.size < w1.heap.size := by omega)); (try (have : w.heap.size + 1 < w1.heap.size := by omega)); (try (have : w.heap.size + 1 + 1 < w1.heap.size := by omega)); (try (have : w.heap.size + 1 + 1 + 1 < w1.heap.size := by omega))
    go_wp2_with (go_at_call 59; refine (isRadius_any _ _).mono ?_; rintro e w' ⟨rfl, rfl⟩)
    go_ret2
    exact IntsOut.none HO.out rfl (by repeat' (first | (with_reducible exact Below.refl _ _) | (with_reducible assumption) | (with_reducible refine Below.alloc ?_ ?_ _) | (with_reducible refine Below.drew ?_) | (with_reducible refine Below.setCell ?_ ?_ _) | (with_reducible refine Below.stepB (by assumption) ?_ ?_) | go_size))
end Go.Proofs.Ytakkgagdbmlafaa
