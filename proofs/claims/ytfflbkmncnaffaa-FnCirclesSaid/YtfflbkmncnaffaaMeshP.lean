/- Plain Lean on spots and triangles: what a mesh is. No program in sight. -/
import Derived.Test.YtfflbkmncnaffaaTripA
import Derived.Test.YtfflbkmncnaffaaSpotA
import Derived.Test.YtfflbkmncnaffaaCross
import Derived.Test.YtfflbkmncnaffaaPlain
namespace Go.Proofs.Ytfflbkmncnaffaa
def spB (p : SP) : Bool := spotB p.x p.y
def cr (a b c : SP) : Int := crD a.x a.y b.x b.y c.x c.y
theorem cr_bd {a b c : SP} (h : spB a = true) (k : spB b = true) (l : spB c = true) : -2000000 ≤ cr a b c ∧ cr a b c ≤ 2000000 := crD_bd h k l
theorem cr_same (a b : SP) : cr a b b = 0 := by
  unfold cr crD
  rw [Int.mul_comm (b.x - a.x) (b.y - a.y)]
  omega
/-- the first k spots are valid -/
def spN (S : Nat → SP) (k : Nat) : Bool := allUpto (fun i => spB (S i)) k
def spotsB (S : Nat → SP) (n : Nat) : Bool := spN S n && decide (n ≤ 12)
/-- corner j of a triangle t, in S -/
def cn (S : Nat → SP) (t : Nat → Int) (j : Nat) : SP := S (t j).toNat
def turnV (S : Nat → SP) (t : Nat → Int) : Int := cr (cn S t 0) (cn S t 1) (cn S t 2)
def idxB (n : Nat) (t : Nat → Int) : Bool := inB (t 0) 0 ((n : Int) - 1) && (inB (t 1) 0 ((n : Int) - 1) && inB (t 2) 0 ((n : Int) - 1))
def trB (S : Nat → SP) (n : Nat) (t : Nat → Int) : Bool := idxB n t && (decide (t 0 < t 1) && (decide (t 0 < t 2) && decide (0 < turnV S t)))
theorem idxB_at {n : Nat} {t : Nat → Int} (h : idxB n t = true) : ∀ j, j < 3 → 0 ≤ t j ∧ t j ≤ (n : Int) - 1 := by
  simp only [idxB, Bool.and_eq_true] at h
  intro j hj
  have : j = 0 ∨ j = 1 ∨ j = 2 := by omega
  rcases this with rfl | rfl | rfl
  · exact inB_iff.1 h.1
  · exact inB_iff.1 h.2.1
  · exact inB_iff.1 h.2.2
theorem idxB_nat {n : Nat} {t : Nat → Int} (h : idxB n t = true) : ∃ a b c : Nat, a < n ∧ b < n ∧ c < n ∧ t 0 = a ∧ t 1 = b ∧ t 2 = c := by
  have h0 := idxB_at h 0 (by omega)
  have h1 := idxB_at h 1 (by omega)
  have h2 := idxB_at h 2 (by omega)
  exact ⟨(t 0).toNat, (t 1).toNat, (t 2).toNat, by omega, by omega, by omega, by omega, by omega, by omega⟩
theorem trB_ne {S : Nat → SP} {n : Nat} {t : Nat → Int} (h : t 1 = t 2) : trB S n t = false := by
  have : turnV S t = 0 := by rw [turnV, cn, cn, cn, h]; exact cr_same _ _
  simp [trB, this]
/-- a spot is in the triangle a b c -/
def insT (a b c p : SP) : Bool := decide (0 ≤ cr a b p) && (decide (0 ≤ cr b c p) && decide (0 ≤ cr c a p))
def insB (S : Nat → SP) (t : Nat → Int) (p : SP) : Bool := insT (cn S t 0) (cn S t 1) (cn S t 2) p
/-- the edge p q has the three corners on its other side -/
def sepE (p q b0 b1 b2 : SP) : Bool := decide (cr p q b0 ≤ 0) && (decide (cr p q b1 ≤ 0) && decide (cr p q b2 ≤ 0))
def partsT (a0 a1 a2 b0 b1 b2 : SP) : Bool := sepE a0 a1 b0 b1 b2 || (sepE a1 a2 b0 b1 b2 || sepE a2 a0 b0 b1 b2)
def partsB (S : Nat → SP) (t u : Nat → Int) : Bool := partsT (cn S t 0) (cn S t 1) (cn S t 2) (cn S u 0) (cn S u 1) (cn S u 2)
def lessT (t u : Nat → Int) : Bool := decide (t 0 < u 0) || (decide (t 0 = u 0) && (decide (t 1 < u 1) || (decide (t 1 = u 1) && decide (t 2 < u 2))))
def isCn (t : Nat → Int) (k : Int) : Bool := decide (t 0 = k) || (decide (t 1 = k) || decide (t 2 = k))
def dupB (S : Nat → SP) (i : Nat) : Bool := hasP (fun k => decide ((S k).x = (S i).x ∧ (S k).y = (S i).y)) i
def distB (S : Nat → SP) (n : Nat) : Bool := allUpto (fun i => !dupB S i) n
def emptyP (S : Nat → SP) (t : Nat → Int) (k : Nat) : Bool := isCn t k || !insB S t (S k)
def emptyB (S : Nat → SP) (n : Nat) (t : Nat → Int) : Bool := allUpto (emptyP S t) n
def apartP (S : Nat → SP) (T : Nat → Nat → Int) (i k : Nat) : Bool := partsB S (T i) (T k) || partsB S (T k) (T i)
def apartB (S : Nat → SP) (T : Nat → Nat → Int) (i : Nat) : Bool := allUpto (apartP S T i) i
def triOk (S : Nat → SP) (n : Nat) (T : Nat → Nat → Int) (i : Nat) : Bool := trB S n (T i) && ((decide (i = 0) || lessT (T (i - 1)) (T i)) && (emptyB S n (T i) && apartB S T i))
def meshB (S : Nat → SP) (n : Nat) (T : Nat → Nat → Int) (m : Nat) : Bool := (spotsB S n && (inB n 3 8 && inB m 1 12)) && (distB S n && allUpto (triOk S n T) m)
theorem meshB_parts {S : Nat → SP} {n : Nat} {T : Nat → Nat → Int} {m : Nat} (h : meshB S n T m = true) : (∀ i, i < n → spB (S i) = true) ∧ (3 ≤ n ∧ n ≤ 8) ∧ (1 ≤ m ∧ m ≤ 12) ∧ ∀ i, i < m → trB S n (T i) = true := by
  simp only [meshB, spotsB, Bool.and_eq_true] at h
  obtain ⟨⟨⟨h1, _⟩, h2, h3⟩, _, h4⟩ := h
  have h2 := inB_iff.1 h2
  have h3 := inB_iff.1 h3
  refine ⟨fun i hi => allUpto_lt h1 i hi, by omega, by omega, fun i hi => ?_⟩
  have := allUpto_lt h4 i hi
  simp only [triOk, Bool.and_eq_true] at this
  exact this.1
theorem trB_idx {S : Nat → SP} {n : Nat} {t : Nat → Int} (h : trB S n t = true) : idxB n t = true := by
  simp only [trB, Bool.and_eq_true] at h
  exact h.1
end Go.Proofs.Ytfflbkmncnaffaa
