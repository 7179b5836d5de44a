/- Plain Lean for the laws on meshes and circles. No program in sight. -/
import Derived.Test.YtfflbkmncnaffaaMsP
import Derived.Test.YtfflbkmncnaffaaMeshQ
import Derived.Test.YtfflbkmncnaffaaDeepA
namespace Go.Proofs.Ytfflbkmncnaffaa
section
def loK (L : Nat → Int) (t : Nat → Int) : Nat → Int
  | 0 => 20000
  | k + 1 => if L (t k).toNat < loK L t k then L (t k).toNat else loK L t k
def hiK (L : Nat → Int) (t : Nat → Int) : Nat → Int
  | 0 => -1000
  | k + 1 => if hiK L t k < L (t k).toNat then L (t k).toNat else hiK L t k
theorem loK_yes {L : Nat → Int} {t : Nat → Int} {k x : Nat} (e : t k = x) (h : L x < loK L t k) : loK L t (k + 1) = L x := by rw [loK, e, Int.toNat_natCast, if_pos h]
theorem loK_no {L : Nat → Int} {t : Nat → Int} {k x : Nat} (e : t k = x) (h : ¬ L x < loK L t k) : loK L t (k + 1) = loK L t k := by rw [loK, e, Int.toNat_natCast, if_neg h]
theorem hiK_yes {L : Nat → Int} {t : Nat → Int} {k x : Nat} (e : t k = x) (h : hiK L t k < L x) : hiK L t (k + 1) = L x := by rw [hiK, e, Int.toNat_natCast, if_pos h]
theorem hiK_no {L : Nat → Int} {t : Nat → Int} {k x : Nat} (e : t k = x) (h : ¬ hiK L t k < L x) : hiK L t (k + 1) = hiK L t k := by rw [hiK, e, Int.toNat_natCast, if_neg h]
theorem loK_le {L : Nat → Int} {t : Nat → Int} : ∀ {k q : Nat}, q < k → loK L t k ≤ L (t q).toNat
  | 0, q, h => absurd h (by omega)
  | k + 1, q, h => by
    unfold loK
    rcases Nat.lt_or_ge q k with h1 | h1
    · have := loK_le (L := L) (t := t) h1
      split <;> omega
    · obtain rfl : q = k := by omega
      split <;> omega
theorem hiK_ge {L : Nat → Int} {t : Nat → Int} : ∀ {k q : Nat}, q < k → L (t q).toNat ≤ hiK L t k
  | 0, q, h => absurd h (by omega)
  | k + 1, q, h => by
    unfold hiK
    rcases Nat.lt_or_ge q k with h1 | h1
    · have := hiK_ge (L := L) (t := t) h1
      split <;> omega
    · obtain rfl : q = k := by omega
      split <;> omega
theorem lohi_bd {L : Nat → Int} {t : Nat → Int} (h : ∀ k, k < 3 → -1000 ≤ L (t k).toNat ∧ L (t k).toNat ≤ 20000) : ∀ k, k ≤ 3 → (-1000 ≤ loK L t k ∧ loK L t k ≤ 20000) ∧ (-1000 ≤ hiK L t k ∧ hiK L t k ≤ 20000)
  | 0, _ => by simp [loK, hiK]
  | k + 1, hk => by
    have h1 := lohi_bd h k (by omega)
    have h2 := h k (by omega)
    unfold loK hiK
    split <;> split <;> omega
theorem frD_bd {x d M : Int} (hd : 0 < d) (hM : d ≤ M) : 1 ≤ frD x d ∧ frD x d ≤ M := by
  have hg : 0 < Nat.gcd x.natAbs d.natAbs := Nat.gcd_pos_of_pos_right _ (by omega)
  have e2 := tdiv_of_dvd hg (fr_dvd x d).2
  unfold frD
  generalize Nat.gcd x.natAbs d.natAbs = g at *
  generalize d.tdiv (g : Int) = b at *
  subst e2
  have hg1 : (1 : Int) ≤ g := by omega
  have hb : 0 < b := by
    rcases Int.lt_or_le 0 b with h | h
    · exact h
    · have := Int.mul_nonpos_of_nonneg_of_nonpos (show (0 : Int) ≤ g by omega) h
      omega
  have := Int.mul_le_mul_of_nonneg_right hg1 (show 0 ≤ b by omega)
  omega
def cornB (S : Nat → SP) (n : Nat) (T : Nat → Nat → Int) (m : Nat) (L : Nat → Int) (d : Nat) (j k x : Nat) : Prop := T j k = x ∧ x < n ∧ x < d ∧ (-1000 ≤ L x ∧ L x ≤ 20000) ∧ daB S n T m L d (S x) = true ∧ daN S n T m L d (S x) = L x ∧ daD S n T m L d (S x) = 1
theorem corn_at {S : Nat → SP} {n : Nat} {T : Nat → Nat → Int} {m : Nat} {L : Nat → Int} {d j k : Nat} (h : depthsB S n T m L d = true) (hj : j < m) (hk : k < 3) : ∃ x, cornB S n T m L d j k x := by
  obtain ⟨hm, rfl, hL⟩ := depthsB_parts h
  have hx := idxB_at (trB_idx (mesh_tri hm hj).1) k hk
  obtain ⟨e1, e2, e3⟩ := corner_val h hj hk
  have hc : cn S (T j) k = S (T j k).toNat := rfl
  rw [hc] at e1 e2 e3
  exact ⟨(T j k).toNat, by omega, by omega, by omega, depB_lt hL _ (by omega), e1, e2, e3⟩
theorem at_facts {S : Nat → SP} {n : Nat} {T : Nat → Nat → Int} {m : Nat} {L : Nat → Int} {d : Nat} {p : SP} (h : daB S n T m L d p = true) :
    tAtB S n T m p = true ∧ ∃ j : Nat, tAtO S n T m p = j ∧ j < m ∧ (∀ k, k < 3 → ∃ x, cornB S n T m L d j k x) ∧ (∀ k, k ≤ 3 → (-1000 ≤ loK L (T j) k ∧ loK L (T j) k ≤ 20000) ∧ (-1000 ≤ hiK L (T j) k ∧ hiK L (T j) k ≤ 20000)) ∧ (1 ≤ daD S n T m L d p ∧ daD S n T m L d p ≤ 2000000) ∧ loK L (T j) 3 * daD S n T m L d p ≤ daN S n T m L d p ∧ daN S n T m L d p ≤ hiK L (T j) 3 * daD S n T m L d p := by
  have h' := h
  simp only [daB, Bool.and_eq_true] at h'
  obtain ⟨hd, hp, hde⟩ := h'
  obtain ⟨hm, rfl, hL⟩ := depthsB_parts hd
  obtain ⟨j, hj, hjt, hin⟩ := tri_at hde
  have hT : tAtB S d T m p = true := by
    simp only [tAtB, Bool.and_eq_true]
    exact ⟨hm, hp, hde⟩
  have hcn := fun k (hk : k < 3) => corn_at hd hj hk
  have hbd : ∀ k, k < 3 → -1000 ≤ L (T j k).toNat ∧ L (T j k).toNat ≤ 20000 := fun k hk => by
    obtain ⟨x, e, _, _, hx, _⟩ := hcn k hk
    rw [e, Int.toNat_natCast]
    exact hx
  obtain ⟨ht, _, _⟩ := mesh_tri hm hj
  have htv := turnV_bd (meshB_parts hm).1 (trB_idx ht)
  obtain ⟨e1, e2⟩ := daN_eq h hjt
  obtain ⟨b1, b2⟩ := depth_bds (lo := loK L (T j) 3) (hi := hiK L (T j) 3) h hjt (fun k hk => ⟨loK_le hk, hiK_ge hk⟩)
  refine ⟨hT, j, ?_, hj, hcn, lohi_bd hbd, ?_, b1, b2⟩
  · rw [tAtO, if_pos hT, hjt]
  · rw [e2]
    exact frD_bd (tri_ne ht).2.2.2 htv.2
theorem nb_facts {S : Nat → SP} {n : Nat} {T : Nat → Nat → Int} {m : Nat} {t : Int} : (nbrO S n T m t).length ≤ 3 ∧ ∀ z, z ∈ nbrO S n T m t → nbrB S n T m z = true ∧ t ∈ nbrO S n T m z := by
  rcases Bool.eq_false_or_eq_true (nbrB S n T m t) with h | h
  · have h' := h
    simp only [nbrB, Bool.and_eq_true] at h'
    obtain ⟨hm, ht⟩ := h'
    have ht := inB_iff.1 ht
    have htm : t.toNat < m := by omega
    rw [nbrO, if_pos h]
    refine ⟨nbL_three hm htm, fun z hz => ?_⟩
    obtain ⟨i, hi, hp, rfl⟩ := pick_memM.1 hz
    have hz : nbrB S n T m (i : Int) = true := by
      simp only [nbrB, Bool.and_eq_true]
      exact ⟨hm, inB_iff.2 ⟨by omega, by omega⟩⟩
    refine ⟨hz, ?_⟩
    rw [nbrO, if_pos hz]
    refine pick_memM.2 ⟨t.toNat, htm, ?_, by omega⟩
    rw [Int.toNat_natCast]
    exact nbL_back hm htm hi hp
  · rw [nbrO, h]
    simp
theorem area_facts {S : Nat → SP} {n : Nat} {T : Nat → Nat → Int} {m : Nat} (h : meshB S n T m = true) : (m : Int) ≤ areaO S n T m := by
  rw [areaO, if_pos h]
  exact area_least h
end
section
theorem mul_bdE {l v : Int} (h1 : -1500 ≤ l ∧ l ≤ 20000) (h2 : 0 ≤ v ∧ v ≤ 2000000) : -40000000000 ≤ l * v ∧ l * v ≤ 40000000000 := by
  have ha : (l * v).natAbs ≤ 20000 * 2000000 := by
    rw [Int.natAbs_mul]
    exact Nat.mul_le_mul (by omega) (by omega)
  omega
theorem circ_facts {ax ay bx b_y cx cy px py : Int} (h : circOk ax ay bx b_y cx cy px py = true) :
    circOk ax ay bx b_y cx cy ax ay = true ∧ circV ax ay bx b_y cx cy ax ay = false ∧ circOk bx b_y cx cy ax ay px py = true ∧ circV bx b_y cx cy ax ay px py = circV ax ay bx b_y cx cy px py := by
  have hr : crD bx b_y cx cy ax ay = crD ax ay bx b_y cx cy := by
    simp only [crD]
    grind
  have hs : ccS bx b_y cx cy ax ay px py 3 = ccS ax ay bx b_y cx cy px py 3 := by
    simp only [ccS, ccT, sqD, crD]
    grind
  have hz : ccS ax ay bx b_y cx cy ax ay 3 = 0 := by
    simp only [ccS, ccT, sqD, crD]
    grind
  simp only [circOk, Bool.and_eq_true, decide_eq_true_eq] at h
  obtain ⟨⟨⟨⟨h1, h2⟩, h3⟩, h4⟩, h5⟩ := h
  have e1 : circOk ax ay bx b_y cx cy ax ay = true := by simp [circOk, h1, h2, h3, h5]
  have e2 : circOk bx b_y cx cy ax ay px py = true := by simp [circOk, h1, h2, h3, h4, hr, h5]
  have e3 : circOk ax ay bx b_y cx cy px py = true := by simp [circOk, h1, h2, h3, h4, h5]
  refine ⟨e1, ?_, e2, ?_⟩
  · simp [circV, inCircle, hz]
  · rw [circV, circV, e2, e3, inCircle, inCircle, hs]
theorem badL_mem {S : Nat → SP} {T : Nat → Nat → Int} {m : Nat} {z : Int × Int} : ∀ {i : Nat}, z ∈ badL S T m i → ∃ a k, a < i ∧ k < m ∧ badP S T a k = true ∧ z = ((a : Int), (k : Int))
  | 0, h => by simp [badL] at h
  | i + 1, h => by
    rw [badL, List.mem_append] at h
    rcases h with h | h
    · obtain ⟨a, k, h1, h2, h3, h4⟩ := badL_mem h
      exact ⟨a, k, by omega, h2, h3, h4⟩
    · obtain ⟨k, hk, hp, rfl⟩ := pick_memM.1 h
      simp only [Bool.and_eq_true] at hp
      exact ⟨i, k, by omega, hk, hp.2, rfl⟩
theorem bad_facts {S : Nat → SP} {n : Nat} {T : Nat → Nat → Int} {m : Nat} : ∀ z, z ∈ badO S n T m → nbrB S n T m z.1 = true ∧ z.2 ∈ nbrO S n T m z.1 := by
  intro z hz
  rcases Bool.eq_false_or_eq_true (meshB S n T m) with h | h
  · rw [badO, if_pos h] at hz
    obtain ⟨a, k, ha, hk, hp, rfl⟩ := badL_mem hz
    have hb : nbrB S n T m (a : Int) = true := by
      simp only [nbrB, Bool.and_eq_true]
      exact ⟨h, inB_iff.2 ⟨by omega, by omega⟩⟩
    refine ⟨hb, ?_⟩
    show (k : Int) ∈ nbrO S n T m (a : Int)
    rw [nbrO, if_pos hb, Int.toNat_natCast]
    simp only [badP, Bool.and_eq_true] at hp
    exact pick_memM.2 ⟨k, hk, hp.1, rfl⟩
  · rw [badO, h] at hz
    simp at hz
theorem deep_facts {S : Nat → SP} {n : Nat} {T : Nat → Nat → Int} {m : Nat} {L : Nat → Int} {d : Nat} {f : Nat → SD} {q : Nat} (h : tdB S n T m L d f q = true) : ∀ i, i < q →
    (((f i).id ∈ tdO S n T m L d f q) ↔ (daB S n T m L d (ptSD (f i)) = true ∧ lowV (f i) * daD S n T m L d (ptSD (f i)) < daN S n T m L d (ptSD (f i)))) ∧ (0 ≤ daD S n T m L d (ptSD (f i)) ∧ daD S n T m L d (ptSD (f i)) ≤ 2000000) ∧ (-1000 ≤ (f i).depth ∧ (f i).depth ≤ 20000) ∧ (0 ≤ (f i).doubt ∧ (f i).doubt ≤ 500) := by
  intro i hi
  have h' := h
  simp only [tdB, Bool.and_eq_true] at h'
  obtain ⟨hd, hg⟩ := h'
  have hgd := (goodNAll_iff.1 hg).1
  have hok := goodN_lt hgd i hi
  obtain ⟨_, hx, hy, hdp, hdb⟩ := okN_bd hok
  have hsp : spB (ptSD (f i)) = true := okN_spot hok
  obtain ⟨hm, rfl, _⟩ := depthsB_parts hd
  have hmem : ((f i).id ∈ tdO S d T m L d f q) ↔ tdP S T m L (f i) = true := by
    rw [tdO, if_pos h]
    constructor
    · intro hz
      obtain ⟨j, hj, hp, e⟩ := pick_memM.1 hz
      have : i = j := by
        rcases Nat.lt_trichotomy i j with h1 | h1 | h1
        · have := goodN_asc hgd i j h1 hj; omega
        · exact h1
        · have := goodN_asc hgd j i h1 hi; omega
      subst this
      exact hp
    · intro hp
      exact pick_memM.2 ⟨i, hi, hp, rfl⟩
  rcases Bool.eq_false_or_eq_true (deOk S T m (ptSD (f i))) with hde | hde
  · have hda : daB S d T m L d (ptSD (f i)) = true := by
      simp only [daB, Bool.and_eq_true]
      exact ⟨hd, hsp, hde⟩
    obtain ⟨j, hj, hjt, _⟩ := tri_at hde
    obtain ⟨e1, e2⟩ := daN_eq hda hjt
    obtain ⟨ht, _, _⟩ := mesh_tri hm hj
    have hpos := (tri_ne ht).2.2.2
    have hf := fr_more (x := plN S (T j) L (ptSD (f i)) 3) hpos (lowV (f i))
    have hb := frD_bd (x := plN S (T j) L (ptSD (f i)) 3) hpos (turnV_bd (meshB_parts hm).1 (trB_idx ht)).2
    rw [hmem, tdP_yes hjt, ← hf, e1, e2, decide_eq_true_eq]
    exact ⟨⟨fun h => ⟨hda, h⟩, fun h => h.2⟩, ⟨by omega, hb.2⟩, hdp, hdb⟩
  · have hda : daB S d T m L d (ptSD (f i)) = false := by simp [daB, hde]
    have hp : tdP S T m L (f i) = false := by rw [tdP, hde, Bool.false_and]
    have hdd : daD S d T m L d (ptSD (f i)) = 0 := by simp [daD, hda]
    rw [hmem, hp, hda, hdd]
    exact ⟨⟨fun h => (by cases h), fun h => (by cases h.1)⟩, ⟨by omega, by omega⟩, hdp, hdb⟩
end
end Go.Proofs.Ytfflbkmncnaffaa
