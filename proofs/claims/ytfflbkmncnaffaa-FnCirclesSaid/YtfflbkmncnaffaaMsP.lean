/- Plain Lean for the law on meshes: the depth at a corner is that of the corner; the depth at a spot lies between those of its corners; neighbors are three at most, and both ways. No program in sight. -/
import Derived.Test.YtfflbkmncnaffaaMeshO
import Derived.Test.YtfflbkmncnaffaaDeep
namespace Go.Proofs.Ytfflbkmncnaffaa
theorem pick_memM {α : Type} {p : Nat → Bool} {f : Nat → α} {a : α} : ∀ {n : Nat}, a ∈ pick p f n ↔ ∃ i, i < n ∧ p i = true ∧ a = f i := by
  intro n
  induction n with
  | zero => simp [pick]
  | succ n ih =>
    rcases Bool.eq_false_or_eq_true (p n) with hp | hp
    · rw [pick_hit hp, List.mem_append, List.mem_singleton, ih]
      constructor
      · rintro (⟨i, h1, h2, h3⟩ | h)
        · exact ⟨i, by omega, h2, h3⟩
        · exact ⟨n, by omega, hp, h⟩
      · rintro ⟨i, h1, h2, h3⟩
        rcases Nat.lt_or_ge i n with h4 | h4
        · exact .inl ⟨i, h4, h2, h3⟩
        · obtain rfl : i = n := by omega
          exact .inr h3
    · rw [pick_miss hp, ih]
      constructor
      · rintro ⟨i, h1, h2, h3⟩
        exact ⟨i, by omega, h2, h3⟩
      · rintro ⟨i, h1, h2, h3⟩
        rcases Nat.lt_or_ge i n with h4 | h4
        · exact ⟨i, h4, h2, h3⟩
        · obtain rfl : i = n := by omega
          rw [hp] at h2; cases h2
theorem cr_sum (a b c p : SP) : cr a b p + cr b c p + cr c a p = cr a b c := by
  simp only [cr, crD]
  grind
theorem cr_first (a b : SP) : cr a b a = 0 := by
  simp only [cr, crD]
  grind
theorem mesh_tri {S : Nat → SP} {n : Nat} {T : Nat → Nat → Int} {m i : Nat} (h : meshB S n T m = true) (hi : i < m) : trB S n (T i) = true ∧ emptyB S n (T i) = true ∧ apartB S T i = true := by
  simp only [meshB, Bool.and_eq_true] at h
  have h4 := allUpto_lt h.2.2 i hi
  simp only [triOk, Bool.and_eq_true] at h4
  exact ⟨h4.1, h4.2.2.1, h4.2.2.2⟩
theorem mesh_apart {S : Nat → SP} {n : Nat} {T : Nat → Nat → Int} {m i k : Nat} (h : meshB S n T m = true) (hi : i < m) (hk : k < m) (hne : i ≠ k) : partsB S (T i) (T k) = true ∨ partsB S (T k) (T i) = true := by
  rcases Nat.lt_or_gt_of_ne hne with h1 | h1
  · have := allUpto_lt (mesh_tri h hk).2.2 i h1
    simp only [apartP, Bool.or_eq_true] at this
    exact this.symm
  · have := allUpto_lt (mesh_tri h hi).2.2 k h1
    simpa only [apartP, Bool.or_eq_true] using this
theorem tri_ne {S : Nat → SP} {n : Nat} {t : Nat → Int} (h : trB S n t = true) : t 0 ≠ t 1 ∧ t 0 ≠ t 2 ∧ t 1 ≠ t 2 ∧ 0 < turnV S t := by
  have h12 : t 1 ≠ t 2 := fun e => by rw [trB_ne e] at h; cases h
  simp only [trB, Bool.and_eq_true, decide_eq_true_eq] at h
  exact ⟨by omega, by omega, h12, h.2.2.2⟩
/-! The depth at a corner. -/
theorem plN_corner (S : Nat → SP) (t : Nat → Int) (L : Nat → Int) (q : Nat) (hq : q < 3) : plN S t L (cn S t q) 3 = L (t q).toNat * turnV S t := by
  have : q = 0 ∨ q = 1 ∨ q = 2 := by omega
  rcases this with rfl | rfl | rfl
  all_goals
    simp only [plN, plT, turnV, Nat.zero_add, Nat.reduceAdd, Nat.reduceMod]
    simp only [cr, crD]
    grind
theorem fr_one {l d : Int} (hd : 0 < d) : frN (l * d) d = l ∧ frD (l * d) d = 1 := by
  have e : Nat.gcd (l * d).natAbs d.natAbs = d.natAbs := by rw [Int.natAbs_mul, Nat.gcd_mul_left_left]
  have e2 : ((d.natAbs : Nat) : Int) = d := by omega
  unfold frN frD
  rw [e, e2]
  exact ⟨Int.mul_tdiv_cancel _ (by omega), Int.tdiv_self (by omega)⟩
theorem insB_corner {S : Nat → SP} {t : Nat → Int} (h : 0 < turnV S t) (q : Nat) (hq : q < 3) : insB S t (cn S t q) = true := by
  have e1 : cr (cn S t 1) (cn S t 2) (cn S t 0) = turnV S t := by simp only [turnV, cr, crD]; grind
  have e2 : cr (cn S t 2) (cn S t 0) (cn S t 1) = turnV S t := by simp only [turnV, cr, crD]; grind
  have e0 : cr (cn S t 0) (cn S t 1) (cn S t 2) = turnV S t := rfl
  have : q = 0 ∨ q = 1 ∨ q = 2 := by omega
  rcases this with rfl | rfl | rfl <;> simp only [insB, insT, Bool.and_eq_true, decide_eq_true_eq, cr_same, cr_first, e0, e1, e2] <;> omega
theorem isCn_iff {t : Nat → Int} {k : Int} : isCn t k = true ↔ ∃ q, q < 3 ∧ t q = k := by
  simp only [isCn, Bool.or_eq_true, decide_eq_true_eq]
  constructor
  · rintro (h | h | h)
    · exact ⟨0, by omega, h⟩
    · exact ⟨1, by omega, h⟩
    · exact ⟨2, by omega, h⟩
  · rintro ⟨q, hq, h⟩
    have : q = 0 ∨ q = 1 ∨ q = 2 := by omega
    rcases this with rfl | rfl | rfl
    · exact .inl h
    · exact .inr (.inl h)
    · exact .inr (.inr h)
theorem daN_eq {S : Nat → SP} {n : Nat} {T : Nat → Nat → Int} {m : Nat} {L : Nat → Int} {d : Nat} {p : SP} {j : Nat} (h : daB S n T m L d p = true) (hj : triAt S T m p = j) : daN S n T m L d p = frN (plN S (T j) L p 3) (turnV S (T j)) ∧ daD S n T m L d p = frD (plN S (T j) L p 3) (turnV S (T j)) := by
  rw [daN, daD, if_pos h, if_pos h, hj]
  exact ⟨rfl, rfl⟩
theorem tri_at {S : Nat → SP} {T : Nat → Nat → Int} {m : Nat} {p : SP} (h : deOk S T m p = true) : ∃ j, j < m ∧ triAt S T m p = (j : Int) ∧ insB S (T j) p = true := by
  simp only [deOk, decide_eq_true_eq] at h
  rcases idxP_cases (fun i => insB S (T i) p) m with ⟨h1, _⟩ | ⟨j, h1, h2, h3, _⟩
  · rw [triAt, h1] at h
    omega
  · exact ⟨j, h1, h2, h3⟩
theorem corner_val {S : Nat → SP} {n : Nat} {T : Nat → Nat → Int} {m : Nat} {L : Nat → Int} {d a k : Nat} (h : depthsB S n T m L d = true) (ha : a < m) (hk : k < 3) :
    daB S n T m L d (cn S (T a) k) = true ∧ daN S n T m L d (cn S (T a) k) = L (T a k).toNat ∧ daD S n T m L d (cn S (T a) k) = 1 := by
  obtain ⟨hm, rfl, _⟩ := depthsB_parts h
  have hsp := (meshB_parts hm).1
  obtain ⟨ht, _, _⟩ := mesh_tri hm ha
  have hx := idxB_at (trB_idx ht) k hk
  have hxn : (T a k).toNat < d := by omega
  have hin := insB_corner (S := S) (tri_ne ht).2.2.2 k hk
  have hde : deOk S T m (cn S (T a) k) = true := by
    simp only [deOk, decide_eq_true_eq]
    rcases idxP_cases (fun i => insB S (T i) (cn S (T a) k)) m with ⟨_, h2⟩ | ⟨j, _, h2, _, _⟩
    · have := h2 a ha
      rw [hin] at this
      cases this
    · rw [triAt, h2]
      omega
  have hda : daB S d T m L d (cn S (T a) k) = true := by
    simp only [daB, Bool.and_eq_true]
    exact ⟨h, hsp _ hxn, hde⟩
  obtain ⟨j, hj, hjt, hji⟩ := tri_at hde
  obtain ⟨htj, hem, _⟩ := mesh_tri hm hj
  have he := allUpto_lt hem _ hxn
  simp only [emptyP, Bool.or_eq_true, Bool.not_eq_true'] at he
  have hc : isCn (T j) ((T a k).toNat : Int) = true := by
    rcases he with he | he
    · exact he
    · rw [show S (T a k).toNat = cn S (T a) k from rfl, hji] at he
      cases he
  obtain ⟨q, hq, hqe⟩ := isCn_iff.1 hc
  have hcn : cn S (T a) k = cn S (T j) q := by
    show S _ = S _
    congr 1
    omega
  obtain ⟨e1, e2⟩ := daN_eq hda hjt
  have hL : L (T j q).toNat = L (T a k).toNat := by congr 1; omega
  rw [hcn, plN_corner S (T j) L q hq] at e1 e2
  obtain ⟨f1, f2⟩ := fr_one (l := L (T j q).toNat) (tri_ne htj).2.2.2
  rw [f1] at e1
  rw [f2] at e2
  refine ⟨hda, ?_, ?_⟩
  · rw [hcn, e1, hL]
  · rw [hcn, e2]
/-! The depth at a spot, between those of the corners. -/
theorem fr_atmost {x d l : Int} (hd : 0 < d) (h : x ≤ l * d) : frN x d ≤ l * frD x d := by
  have h1 := fr_more (x := x) hd l
  rw [decide_eq_false (show ¬ l * d < x by omega)] at h1
  have := of_decide_eq_false h1
  omega
theorem fr_atleast {x d l : Int} (hd : 0 < d) (h : l * d ≤ x) : l * frD x d ≤ frN x d := by
  have hg : 0 < Nat.gcd x.natAbs d.natAbs := Nat.gcd_pos_of_pos_right _ (by omega)
  obtain ⟨h1, h2⟩ := fr_dvd x d
  have e1 := tdiv_of_dvd hg h1
  have e2 := tdiv_of_dvd hg h2
  unfold frN frD
  generalize Nat.gcd x.natAbs d.natAbs = g at *
  generalize x.tdiv (g : Int) = a at *
  generalize d.tdiv (g : Int) = b at *
  subst e1 e2
  have hg2 : (0 : Int) < g := by omega
  have e3 : l * ((g : Int) * b) = (g : Int) * (l * b) := by rw [← Int.mul_assoc, Int.mul_comm l, Int.mul_assoc]
  rw [e3] at h
  exact Int.le_of_mul_le_mul_left h hg2
theorem plN_bds {S : Nat → SP} {t : Nat → Int} {L : Nat → Int} {p : SP} {lo hi : Int} (h : insB S t p = true) (hl : ∀ k, k < 3 → lo ≤ L (t k).toNat ∧ L (t k).toNat ≤ hi) : lo * turnV S t ≤ plN S t L p 3 ∧ plN S t L p 3 ≤ hi * turnV S t := by
  have hs := cr_sum (cn S t 0) (cn S t 1) (cn S t 2) p
  simp only [insB, insT, Bool.and_eq_true, decide_eq_true_eq] at h
  obtain ⟨h0, h1, h2⟩ := h
  have l0 := hl 0 (by omega)
  have l1 := hl 1 (by omega)
  have l2 := hl 2 (by omega)
  simp only [plN, plT, turnV, Nat.zero_add, Nat.reduceAdd, Nat.reduceMod]
  rw [← hs]
  generalize cr (cn S t 0) (cn S t 1) p = u at *
  generalize cr (cn S t 1) (cn S t 2) p = v at *
  generalize cr (cn S t 2) (cn S t 0) p = z at *
  have a0 := Int.mul_le_mul_of_nonneg_right l0.1 h1
  have a1 := Int.mul_le_mul_of_nonneg_right l1.1 h2
  have a2 := Int.mul_le_mul_of_nonneg_right l2.1 h0
  have b0 := Int.mul_le_mul_of_nonneg_right l0.2 h1
  have b1 := Int.mul_le_mul_of_nonneg_right l1.2 h2
  have b2 := Int.mul_le_mul_of_nonneg_right l2.2 h0
  rw [Int.mul_add, Int.mul_add, Int.mul_add, Int.mul_add]
  omega
theorem depth_bds {S : Nat → SP} {n : Nat} {T : Nat → Nat → Int} {m : Nat} {L : Nat → Int} {d : Nat} {p : SP} {lo hi : Int} {j : Nat} (h : daB S n T m L d p = true) (hj : triAt S T m p = j) (hl : ∀ k, k < 3 → lo ≤ L (T j k).toNat ∧ L (T j k).toNat ≤ hi) :
    lo * daD S n T m L d p ≤ daN S n T m L d p ∧ daN S n T m L d p ≤ hi * daD S n T m L d p := by
  have h' := h
  simp only [daB, Bool.and_eq_true] at h'
  obtain ⟨hd, hp, hde⟩ := h'
  obtain ⟨hm, rfl, _⟩ := depthsB_parts hd
  obtain ⟨j', hj', hjt, hin⟩ := tri_at hde
  obtain rfl : j = j' := by omega
  have hpos := (tri_ne (mesh_tri hm hj').1).2.2.2
  obtain ⟨e1, e2⟩ := daN_eq h hj
  obtain ⟨b1, b2⟩ := plN_bds hin hl
  rw [e1, e2]
  exact ⟨fr_atleast hpos b1, fr_atmost hpos b2⟩
/-! The neighbors. -/
theorem sep_no {p q b0 b1 b2 : SP} (h : 0 < cr p q b0 ∨ 0 < cr p q b1 ∨ 0 < cr p q b2) : sepE p q b0 b1 b2 = false := by
  rcases Bool.eq_false_or_eq_true (sepE p q b0 b1 b2) with he | he
  · simp only [sepE, Bool.and_eq_true, decide_eq_true_eq] at he
    omega
  · exact he
/-- two triangles that have an edge in common, the same way round, are not apart -/
theorem same_edge {S : Nat → SP} {t u : Nat → Int} (ht : 0 < turnV S t) (hu : 0 < turnV S u) {k l : Nat} (hk : k < 3) (hl : l < 3) (h1 : t k = u l) (h2 : t ((k + 1) % 3) = u ((l + 1) % 3)) : partsB S t u = false := by
  have c1 : cn S t k = cn S u l := by unfold cn; rw [h1]
  have c2 : cn S t ((k + 1) % 3) = cn S u ((l + 1) % 3) := by unfold cn; rw [h2]
  have t1 : cr (cn S t 1) (cn S t 2) (cn S t 0) = turnV S t := by simp only [turnV, cr, crD]; grind
  have t2 : cr (cn S t 2) (cn S t 0) (cn S t 1) = turnV S t := by simp only [turnV, cr, crD]; grind
  have t0 : cr (cn S t 0) (cn S t 1) (cn S t 2) = turnV S t := rfl
  have u1 : cr (cn S u 1) (cn S u 2) (cn S u 0) = turnV S u := by simp only [turnV, cr, crD]; grind
  have u2 : cr (cn S u 2) (cn S u 0) (cn S u 1) = turnV S u := by simp only [turnV, cr, crD]; grind
  have u0 : cr (cn S u 0) (cn S u 1) (cn S u 2) = turnV S u := rfl
  rw [← t0] at ht
  rw [t0] at ht
  unfold partsB partsT
  have hk' : k = 0 ∨ k = 1 ∨ k = 2 := by omega
  have hl' : l = 0 ∨ l = 1 ∨ l = 2 := by omega
  rcases hk' with rfl | rfl | rfl <;> rcases hl' with rfl | rfl | rfl <;> simp only [Nat.zero_add, Nat.reduceAdd, Nat.reduceMod] at c1 c2 <;> rw [sep_no, sep_no, sep_no] <;> first | rfl | skip
  all_goals (simp only [← c1, ← c2] at u0 u1 u2 ⊢; simp only [t0, t1, t2, u0, u1, u2]; simp [ht, hu])
theorem com_three (a b : Nat → Int) : comN a b 3 = (if isCn a (b 0) = true then 1 else 0) + (if isCn a (b 1) = true then 1 else 0) + (if isCn a (b 2) = true then 1 else 0) := by
  simp [comN]
/-- the edge that two neighbors have in common: against each other's way round -/
def Shares (a b : Nat → Int) (j : Nat) : Prop := ∃ l, l < 3 ∧ b l = a ((j + 1) % 3) ∧ b ((l + 1) % 3) = a j
theorem nb_edge {S : Nat → SP} {a b : Nat → Int} (hdb : b 0 ≠ b 1 ∧ b 0 ≠ b 2 ∧ b 1 ≠ b 2) (hta : 0 < turnV S a) (htb : 0 < turnV S b) (hap : partsB S a b = true ∨ partsB S b a = true) (h : nbB a b = true) : ∃ j, j < 3 ∧ Shares a b j := by
  have hno : ∀ k l, k < 3 → l < 3 → a k = b l → a ((k + 1) % 3) = b ((l + 1) % 3) → False := fun k l hk hl h1 h2 => by
    rw [same_edge hta htb hk hl h1 h2, same_edge htb hta hl hk h1.symm h2.symm] at hap
    rcases hap with h | h <;> cases h
  -- two corners of b that are corners of a
  have h2 : ∃ l l', l < 3 ∧ l' < 3 ∧ l ≠ l' ∧ isCn a (b l) = true ∧ isCn a (b l') = true := by
    simp only [nbB, beq_iff_eq, com_three] at h
    rcases Bool.eq_false_or_eq_true (isCn a (b 0)) with h0 | h0 <;> rcases Bool.eq_false_or_eq_true (isCn a (b 1)) with h1 | h1 <;> rcases Bool.eq_false_or_eq_true (isCn a (b 2)) with h2 | h2
    · exact ⟨0, 1, by omega, by omega, by omega, h0, h1⟩
    · exact ⟨0, 1, by omega, by omega, by omega, h0, h1⟩
    · exact ⟨0, 2, by omega, by omega, by omega, h0, h2⟩
    · simp [h0, h1, h2] at h
    · exact ⟨1, 2, by omega, by omega, by omega, h1, h2⟩
    · simp [h0, h1, h2] at h
    · simp [h0, h1, h2] at h
    · simp [h0, h1, h2] at h
  obtain ⟨l, l', hl, hl', hne, hc, hc'⟩ := h2
  obtain ⟨k, hk, e⟩ := isCn_iff.1 hc
  obtain ⟨k', hk', e'⟩ := isCn_iff.1 hc'
  have hbb : b l ≠ b l' := by
    have q1 : l = 0 ∨ l = 1 ∨ l = 2 := by omega
    have q2 : l' = 0 ∨ l' = 1 ∨ l' = 2 := by omega
    rcases q1 with rfl | rfl | rfl <;> rcases q2 with rfl | rfl | rfl <;> omega
  have hkk : k ≠ k' := fun hh => hbb (by rw [← e, ← e', hh])
  -- the one behind the other in a, and in b
  have qk : k' = (k + 1) % 3 ∨ k = (k' + 1) % 3 := by omega
  have ql : l' = (l + 1) % 3 ∨ l = (l' + 1) % 3 := by omega
  rcases qk with rfl | rfl <;> rcases ql with rfl | rfl
  · exact absurd (hno k l hk hl e e') id
  · exact ⟨k, hk, l', hl', e'.symm, e.symm⟩
  · exact ⟨k', hk', l, hl, e.symm, e'.symm⟩
  · exact absurd (hno k' l' hk' hl' e' e) id
theorem shares_one {S : Nat → SP} {a b c : Nat → Int} {j : Nat} (htb : 0 < turnV S b) (htc : 0 < turnV S c) (h1 : Shares a b j) (h2 : Shares a c j) : ¬ (partsB S b c = true ∨ partsB S c b = true) := by
  obtain ⟨l, hl, e1, e2⟩ := h1
  obtain ⟨q, hq, f1, f2⟩ := h2
  rw [same_edge htb htc hl hq (e1.trans f1.symm) (e2.trans f2.symm), same_edge htc htb hq hl (f1.trans e1.symm) (f2.trans e2.symm)]
  rintro (h | h) <;> cases h
theorem pick_drop {α : Type} {p q : Nat → Bool} {h : Nat → α} {i0 : Nat} : ∀ {n : Nat}, (∀ i, i < n → p i = true → i ≠ i0 → q i = true) → (pick p h n).length ≤ (pick q h n).length + (if i0 < n then 1 else 0)
  | 0, _ => by simp [pick]
  | n + 1, H => by
    have ih := pick_drop (h := h) (fun i hi => H i (Nat.lt_succ_of_lt hi))
    rcases Bool.eq_false_or_eq_true (p n) with hp | hp
    · rw [pick_hit hp, List.length_append, List.length_singleton]
      by_cases he : n = i0
      · subst he
        rw [if_neg (Nat.lt_irrefl _)] at ih
        rw [if_pos (Nat.lt_succ_self _)]
        have : (pick q h n).length ≤ (pick q h (n + 1)).length := by
          rcases Bool.eq_false_or_eq_true (q n) with hq | hq
          · rw [pick_hit hq, List.length_append]; omega
          · rw [pick_miss hq]; exact Nat.le_refl _
        omega
      · rw [pick_hit (H n (Nat.lt_succ_self n) hp he), List.length_append, List.length_singleton]
        split at ih <;> split <;> omega
    · rw [pick_miss hp]
      have : (pick q h n).length ≤ (pick q h (n + 1)).length := by
        rcases Bool.eq_false_or_eq_true (q n) with hq | hq
        · rw [pick_hit hq, List.length_append]; omega
        · rw [pick_miss hq]; exact Nat.le_refl _
      split at ih <;> split <;> omega
theorem pick_few {α : Type} {h : Nat → α} {n : Nat} (R : Nat → Nat → Prop) : ∀ (N : Nat) (p : Nat → Bool), (∀ i, i < n → p i = true → ∃ j, j < N ∧ R j i) → (∀ j i k, i < n → k < n → p i = true → p k = true → R j i → R j k → i = k) → (pick p h n).length ≤ N
  | 0, p, h1, _ => by
    have : ∀ m, m ≤ n → (pick p h m).length = 0 := by
      intro m
      induction m with
      | zero => intro _; rfl
      | succ m ih =>
        intro hm
        have hp : p m = false := by
          rcases Bool.eq_false_or_eq_true (p m) with hp | hp
          · obtain ⟨j, hj, _⟩ := h1 m (by omega) hp
            omega
          · exact hp
        rw [pick_miss hp]
        exact ih (by omega)
    rw [this n (Nat.le_refl _)]
    exact Nat.le_refl _
  | N + 1, p, h1, h2 => by
    by_cases hx : ∃ i0, i0 < n ∧ p i0 = true ∧ R N i0
    · obtain ⟨i0, hi0, hp0, hr0⟩ := hx
      have ih := pick_few (h := h) R N (fun i => p i && decide (i ≠ i0)) (fun i hi hp => by
        simp only [Bool.and_eq_true, decide_eq_true_eq] at hp
        obtain ⟨j, hj, hr⟩ := h1 i hi hp.1
        refine ⟨j, ?_, hr⟩
        rcases Nat.lt_or_ge j N with h3 | h3
        · exact h3
        · obtain rfl : j = N := by omega
          exact absurd (h2 j i i0 hi hi0 hp.1 hp0 hr hr0) hp.2) (fun j i k hi hk hp hq hr hs => by
        simp only [Bool.and_eq_true] at hp hq
        exact h2 j i k hi hk hp.1 hq.1 hr hs)
      have hd := pick_drop (p := p) (q := fun i => p i && decide (i ≠ i0)) (h := h) (i0 := i0) (n := n) (fun i _ hp hne => by simp [hp, hne])
      split at hd <;> omega
    · have ih := pick_few (h := h) R N p (fun i hi hp => by
        obtain ⟨j, hj, hr⟩ := h1 i hi hp
        refine ⟨j, ?_, hr⟩
        rcases Nat.lt_or_ge j N with h3 | h3
        · exact h3
        · obtain rfl : j = N := by omega
          exact absurd ⟨i, hi, hp, hr⟩ hx) h2
      omega
theorem nb_self {t : Nat → Int} : nbB t t = false := by
  simp [nbB, com_three, isCn]
theorem nbL_three {S : Nat → SP} {n : Nat} {T : Nat → Nat → Int} {m t : Nat} (h : meshB S n T m = true) (ht : t < m) : (nbL T t m).length ≤ 3 := by
  obtain ⟨a0, a1, a2, ha⟩ := tri_ne (mesh_tri h ht).1
  refine pick_few (fun j i => Shares (T t) (T i) j) 3 _ (fun i hi hp => ?_) (fun j i k hi hk _ _ hr hs => ?_)
  · obtain ⟨b0, b1, b2, hb⟩ := tri_ne (mesh_tri h hi).1
    have hne : t ≠ i := fun e => by subst e; rw [nb_self] at hp; cases hp
    exact nb_edge ⟨b0, b1, b2⟩ ha hb (mesh_apart h ht hi hne) hp
  · by_cases e : i = k
    · exact e
    · exact absurd (mesh_apart h hi hk e) (shares_one (tri_ne (mesh_tri h hi).1).2.2.2 (tri_ne (mesh_tri h hk).1).2.2.2 hr hs)
theorem nb_sym {S : Nat → SP} {a b : Nat → Int} (hda : a 0 ≠ a 1 ∧ a 0 ≠ a 2 ∧ a 1 ≠ a 2) (hta : 0 < turnV S a) (htb : 0 < turnV S b) {j : Nat} (hj : j < 3) (h : Shares a b j) : nbB b a = true := by
  obtain ⟨l, hl, e1, e2⟩ := h
  have c1 : isCn b (a ((j + 1) % 3)) = true := isCn_iff.2 ⟨l, hl, e1⟩
  have c2 : isCn b (a j) = true := isCn_iff.2 ⟨(l + 1) % 3, by omega, e2⟩
  -- the third one is not there: b would turn the other way
  have c3 : isCn b (a ((j + 2) % 3)) = false := by
    rcases Bool.eq_false_or_eq_true (isCn b (a ((j + 2) % 3))) with hc | hc
    · obtain ⟨q, hq, e3⟩ := isCn_iff.1 hc
      exfalso
      have n1 : a ((j + 2) % 3) ≠ a j ∧ a ((j + 2) % 3) ≠ a ((j + 1) % 3) := by
        have q1 : j = 0 ∨ j = 1 ∨ j = 2 := by omega
        rcases q1 with rfl | rfl | rfl <;> simp only [Nat.zero_add, Nat.reduceAdd, Nat.reduceMod] <;> omega
      have hq1 : q ≠ l := fun e => n1.2 (by rw [← e3, e, e1])
      have hq2 : q ≠ (l + 1) % 3 := fun e => n1.1 (by rw [← e3, e, e2])
      obtain rfl : q = (l + 2) % 3 := by omega
      have hneg : turnV S a = - turnV S b := by
        have p1 : cn S b l = cn S a ((j + 1) % 3) := by unfold cn; rw [e1]
        have p2 : cn S b ((l + 1) % 3) = cn S a j := by unfold cn; rw [e2]
        have p3 : cn S b ((l + 2) % 3) = cn S a ((j + 2) % 3) := by unfold cn; rw [e3]
        have q1 : j = 0 ∨ j = 1 ∨ j = 2 := by omega
        have q2 : l = 0 ∨ l = 1 ∨ l = 2 := by omega
        rcases q1 with rfl | rfl | rfl <;> rcases q2 with rfl | rfl | rfl
        all_goals
          simp only [Nat.zero_add, Nat.reduceAdd, Nat.reduceMod] at p1 p2 p3
          simp only [turnV, p1, p2, p3, cr, crD]
          grind
      omega
    · exact hc
  have q1 : j = 0 ∨ j = 1 ∨ j = 2 := by omega
  rcases q1 with rfl | rfl | rfl
  all_goals
    simp only [Nat.zero_add, Nat.reduceAdd, Nat.reduceMod] at c1 c2 c3
    simp [nbB, com_three, c1, c2, c3]
theorem nbL_back {S : Nat → SP} {n : Nat} {T : Nat → Nat → Int} {m t i : Nat} (h : meshB S n T m = true) (ht : t < m) (hi : i < m) (hp : nbB (T t) (T i) = true) : nbB (T i) (T t) = true := by
  obtain ⟨a0, a1, a2, ha⟩ := tri_ne (mesh_tri h ht).1
  obtain ⟨b0, b1, b2, hb⟩ := tri_ne (mesh_tri h hi).1
  have hne : t ≠ i := fun e => by subst e; rw [nb_self] at hp; cases hp
  obtain ⟨j, hj, hs⟩ := nb_edge ⟨b0, b1, b2⟩ ha hb (mesh_apart h ht hi hne) hp
  exact nb_sym ⟨a0, a1, a2⟩ ha hb hj hs
theorem area_least {S : Nat → SP} {n : Nat} {T : Nat → Nat → Int} {m : Nat} (h : meshB S n T m = true) : (m : Int) ≤ sumT S T m := by
  have : ∀ k, k ≤ m → (k : Int) ≤ sumT S T k := by
    intro k
    induction k with
    | zero => intro _; exact Int.le_refl _
    | succ k ih =>
      intro hk
      have h1 := ih (by omega)
      have h2 := (tri_ne (mesh_tri h (show k < m by omega)).1).2.2.2
      show _ ≤ sumT S T k + turnV S (T k)
      omega
  exact this m (Nat.le_refl _)
end Go.Proofs.Ytfflbkmncnaffaa
