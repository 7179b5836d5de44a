/- Plain Lean: the letters of a sample, by sorting three shares and by counting shares down. No program in sight. -/
import Derived.Test.YtfecepjdjikenaaIns
namespace Go.Proofs.Ytfecepjdjikenaa
def shareOf (m s r : Int) (i : Int) : Int := if i = 0 then m else if i = 1 then s else r
def letOf (i : Int) : UInt8 := if i = 0 then 77 else if i = 1 then 83 else 82
/-- the order of the three, by share, the greatest first -/
def ordV (m s r : Int) : Nat → Int := insO (fun a b => decide (shareOf m s r b < shareOf m s r a)) (fun i => (i : Int)) 3
/-- the letters of the first k of the order -/
def outV (m s r : Int) : Nat → List UInt8
  | 0 => []
  | k + 1 => outV m s r k ++ (if 20 ≤ shareOf m s r (ordV m s r k) then [letOf (ordV m s r k)] else [])
/-- the letters of the shares above 100 - k, counted down -/
def letG (m s r : Int) : Nat → List UInt8
  | 0 => []
  | k + 1 => letG m s r k ++ (if m = 100 - k then [77] else []) ++ (if s = 100 - k then [83] else []) ++ (if r = 100 - k then [82] else [])
def ifL (b : Bool) (x : UInt8) : List UInt8 := if b = true then [x] else []
/-- three letters in an order, of those above a bound -/
def thr (a b c : Int) (x y z : UInt8) (k : Int) : List UInt8 := ifL (decide (100 - k < a)) x ++ ifL (decide (100 - k < b)) y ++ ifL (decide (100 - k < c)) z
theorem ifL_t {b : Bool} {x : UInt8} (h : b = true) : ifL b x = [x] := by simp [ifL, h]
theorem ifL_f {b : Bool} {x : UInt8} (h : b = false) : ifL b x = [] := by simp [ifL, h]
/-- one step of the count at one share -/
theorem step1 (a : Int) (k : Nat) : decide (100 - ((k + 1 : Nat) : Int) < a) = (decide (100 - (k : Int) < a) || decide (a = 100 - k)) := by
  rw [Bool.eq_iff_iff]
  simp
  omega
set_option maxHeartbeats 4000000 in
theorem letG_thr (m s r : Int) (hm : m ≤ 100) (hs : s ≤ 100) (hr : r ≤ 100) : ∀ k : Nat, letG m s r k =
    if s ≤ m ∧ r ≤ s then thr m s r 77 83 82 k else if r ≤ m ∧ s < r then thr m r s 77 82 83 k else if m < s ∧ r ≤ m then thr s m r 83 77 82 k
    else if r ≤ s ∧ m < r then thr s r m 83 82 77 k else if m < r ∧ s ≤ m then thr r m s 82 77 83 k else thr r s m 82 83 77 k
  | 0 => by
    have e : ∀ a b c x y z, a ≤ 100 → b ≤ 100 → c ≤ 100 → thr a b c x y z ((0 : Nat) : Int) = [] := fun a b c x y z h1 h2 h3 => by
      unfold thr
      rw [ifL_f (decide_eq_false (by omega)), ifL_f (decide_eq_false (by omega)), ifL_f (decide_eq_false (by omega))]
      rfl
    simp only [letG, e _ _ _ _ _ _ hm hs hr, e _ _ _ _ _ _ hm hr hs, e _ _ _ _ _ _ hs hm hr, e _ _ _ _ _ _ hs hr hm, e _ _ _ _ _ _ hr hm hs, e _ _ _ _ _ _ hr hs hm]
    simp
  | k + 1 => by
    have d : ∀ (a : Int) (x : UInt8), (100 - (k : Int) < a ∧ ifL (decide (100 - ((k + 1 : Nat) : Int) < a)) x = [x] ∧ ifL (decide (100 - (k : Int) < a)) x = [x] ∧ (if a = 100 - (k : Int) then [x] else []) = []) ∨
        (a = 100 - (k : Int) ∧ ifL (decide (100 - ((k + 1 : Nat) : Int) < a)) x = [x] ∧ ifL (decide (100 - (k : Int) < a)) x = [] ∧ (if a = 100 - (k : Int) then [x] else []) = [x]) ∨
        (a < 100 - (k : Int) ∧ ifL (decide (100 - ((k + 1 : Nat) : Int) < a)) x = [] ∧ ifL (decide (100 - (k : Int) < a)) x = [] ∧ (if a = 100 - (k : Int) then [x] else []) = []) := fun a x => by
      rcases Int.lt_trichotomy a (100 - (k : Int)) with h | h | h
      · exact .inr (.inr ⟨h, ifL_f (decide_eq_false (by omega)), ifL_f (decide_eq_false (by omega)), if_neg (by omega)⟩)
      · exact .inr (.inl ⟨h, ifL_t (decide_eq_true (by omega)), ifL_f (decide_eq_false (by omega)), if_pos h⟩)
      · exact .inl ⟨h, ifL_t (decide_eq_true (by omega)), ifL_t (decide_eq_true (by omega)), if_neg (by omega)⟩
    rw [letG, letG_thr m s r hm hs hr k]
    rcases d m 77 with ⟨h1, a1, b1, e1⟩ | ⟨h1, a1, b1, e1⟩ | ⟨h1, a1, b1, e1⟩ <;> rcases d s 83 with ⟨h2, a2, b2, e2⟩ | ⟨h2, a2, b2, e2⟩ | ⟨h2, a2, b2, e2⟩ <;> rcases d r 82 with ⟨h3, a3, b3, e3⟩ | ⟨h3, a3, b3, e3⟩ | ⟨h3, a3, b3, e3⟩ <;>
      simp only [thr, a1, b1, e1, a2, b2, e2, a3, b3, e3] <;> (repeat' split) <;> first | rfl | (exfalso; omega)
set_option maxHeartbeats 1000000 in
theorem ordV_cases (m s r : Int) : (s ≤ m ∧ r ≤ s ∧ ordV m s r 0 = 0 ∧ ordV m s r 1 = 1 ∧ ordV m s r 2 = 2) ∨ (r ≤ m ∧ s < r ∧ ordV m s r 0 = 0 ∧ ordV m s r 1 = 2 ∧ ordV m s r 2 = 1) ∨
    (m < s ∧ r ≤ m ∧ ordV m s r 0 = 1 ∧ ordV m s r 1 = 0 ∧ ordV m s r 2 = 2) ∨ (r ≤ s ∧ m < r ∧ ordV m s r 0 = 1 ∧ ordV m s r 1 = 2 ∧ ordV m s r 2 = 0) ∨
    (m < r ∧ s ≤ m ∧ ordV m s r 0 = 2 ∧ ordV m s r 1 = 0 ∧ ordV m s r 2 = 1) ∨ (s < r ∧ m < s ∧ ordV m s r 0 = 2 ∧ ordV m s r 1 = 1 ∧ ordV m s r 2 = 0) := by
  unfold ordV
  by_cases h1 : m < s <;> by_cases h2 : s < r <;> by_cases h3 : m < r <;> simp [insO, insI, swpF, shareOf, h1, h2, h3] <;> omega
set_option maxHeartbeats 1000000 in
theorem outV_letG (m s r : Int) (hm : m ≤ 100) (hs : s ≤ 100) (hr : r ≤ 100) : outV m s r 3 = letG m s r 81 := by
  have e : ∀ (a : Int) (x : UInt8), (if 20 ≤ a then [x] else []) = ifL (decide (100 - ((81 : Nat) : Int) < a)) x := fun a x => by
    by_cases h : 20 ≤ a
    · rw [if_pos h, ifL_t (decide_eq_true (by omega))]
    · rw [if_neg h, ifL_f (decide_eq_false (by omega))]
  rw [letG_thr m s r hm hs hr 81]
  simp only [outV]
  have z0 : shareOf m s r 0 = m := rfl
  have z1 : shareOf m s r 1 = s := rfl
  have z2 : shareOf m s r 2 = r := rfl
  have y0 : letOf 0 = 77 := rfl
  have y1 : letOf 1 = 83 := rfl
  have y2 : letOf 2 = 82 := rfl
  rcases ordV_cases m s r with ⟨g1, g2, o0, o1, o2⟩ | ⟨g1, g2, o0, o1, o2⟩ | ⟨g1, g2, o0, o1, o2⟩ | ⟨g1, g2, o0, o1, o2⟩ | ⟨g1, g2, o0, o1, o2⟩ | ⟨g1, g2, o0, o1, o2⟩ <;>
    simp only [o0, o1, o2, z0, z1, z2, y0, y1, y2, List.nil_append, e] <;> clear o0 o1 o2 z0 z1 z2 y0 y1 y2 e
  · rw [if_pos (by omega)]; rfl
  · rw [if_neg (by omega), if_pos (by omega)]; rfl
  · rw [if_neg (by omega), if_neg (by omega), if_pos (by omega)]; rfl
  · rw [if_neg (by omega), if_neg (by omega), if_neg (by omega), if_pos (by omega)]; rfl
  · rw [if_neg (by omega), if_neg (by omega), if_neg (by omega), if_neg (by omega), if_pos (by omega)]; rfl
  · rw [if_neg (by omega), if_neg (by omega), if_neg (by omega), if_neg (by omega), if_neg (by omega)]; rfl
end Go.Proofs.Ytfecepjdjikenaa
