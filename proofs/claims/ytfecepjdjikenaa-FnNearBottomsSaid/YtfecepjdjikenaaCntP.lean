/- Plain Lean: how often each name occurs: kept in an ascending list beside its counts; and told from the sorted list. No program in sight. -/
import Derived.Test.YtfecepjdjikenaaLeaf
namespace Go.Proofs.Ytfecepjdjikenaa
section
variable {α : Type} [DecidableEq α] (lt : α → α → Prop)
/-- the names of X, ascending, each once, and how often each occurs -/
def CntOk (X all : List α) (c : List Int) : Prop := all.Pairwise lt ∧ (∀ s, s ∈ all ↔ s ∈ X) ∧ c = all.map (fun s => (X.count s : Int))
theorem cnt_nil : CntOk lt [] ([] : List α) [] := ⟨.nil, fun _ => Iff.rfl, rfl⟩
variable {lt}
theorem cnt_len {X all : List α} {c : List Int} (h : CntOk lt X all c) : c.length = all.length := by rw [h.2.2, List.length_map]
theorem cnt_old (irr : ∀ a : α, ¬ lt a a) {X all : List α} {c : List Int} {s : α} {k : Nat} (h : CntOk lt X all c) (hk : k < all.length) (e : all[k] = s) : CntOk lt (X ++ [s]) all (c.set k (c.getD k 0 + 1)) := by
  obtain ⟨h1, h2, rfl⟩ := h
  have hs : s ∈ X := (h2 s).1 (e ▸ List.getElem_mem hk)
  refine ⟨h1, fun t => ?_, ?_⟩
  · rw [h2 t, List.mem_append, List.mem_singleton]
    exact ⟨.inl, fun h => h.elim id (fun h => h ▸ hs)⟩
  · refine List.ext_getElem (by simp) (fun i h3 h4 => ?_)
    rw [List.getElem_set]
    simp only [List.length_map] at h4
    by_cases hi : k = i
    · subst hi
      simp [List.getD, hk, e]
    · have hne : all[i] ≠ s := by
        intro h5
        have h6 := List.pairwise_iff_getElem.1 h1
        rcases Nat.lt_trichotomy i k with h7 | h7 | h7
        · have := h6 i k h4 hk h7
          rw [h5, e] at this
          exact irr _ this
        · exact hi h7.symm
        · have := h6 k i hk h4 h7
          rw [h5, e] at this
          exact irr _ this
      rw [if_neg hi]
      simp [List.count_singleton, Ne.symm hne]
theorem cnt_new (irr : ∀ a : α, ¬ lt a a) (tr : ∀ a b c : α, lt a b → lt b c → lt a c) {X all : List α} {c : List Int} {s : α} {k : Nat} (h : CntOk lt X all c) (hk : k ≤ all.length) (hA : ∀ a, a ∈ all.take k → lt a s) (hB : ∀ h : k < all.length, lt s all[k]) :
    CntOk lt (X ++ [s]) (all.take k ++ s :: all.drop k) (c.take k ++ 1 :: c.drop k) := by
  obtain ⟨h1, h2, rfl⟩ := h
  have hB' : ∀ b, b ∈ all.drop k → lt s b := by
    intro b hb
    obtain ⟨j, hj, rfl⟩ := List.mem_iff_getElem.1 hb
    rw [List.length_drop] at hj
    rw [List.getElem_drop]
    have h3 := hB (by omega)
    rcases Nat.eq_zero_or_pos j with rfl | hp
    · exact h3
    · exact tr _ _ _ h3 (List.pairwise_iff_getElem.1 h1 k (k + j) (by omega) (by omega) (by omega))
  have hsplit : all = all.take k ++ all.drop k := (List.take_append_drop k all).symm
  have hpw : all.Pairwise lt := h1
  rw [hsplit, List.pairwise_append] at hpw
  have hsn : s ∉ X := by
    rw [← h2 s, hsplit, List.mem_append]
    rintro (h3 | h3)
    · exact irr _ (hA _ h3)
    · exact irr _ (hB' _ h3)
  refine ⟨?_, fun t => ?_, ?_⟩
  · rw [List.pairwise_append, List.pairwise_cons]
    refine ⟨hpw.1, ⟨hB', hpw.2.1⟩, fun a ha b hb => ?_⟩
    rcases List.mem_cons.1 hb with rfl | hb
    · exact hA a ha
    · exact hpw.2.2 a ha b hb
  · rw [List.mem_append, List.mem_cons, List.mem_append, List.mem_singleton, ← h2 t]
    have : t ∈ all ↔ t ∈ all.take k ∨ t ∈ all.drop k := by
      conv => lhs; rw [hsplit]
      exact List.mem_append
    rw [this]
    constructor
    · rintro (h3 | h3 | h3)
      · exact .inl (.inl h3)
      · exact .inr h3
      · exact .inl (.inr h3)
    · rintro ((h3 | h3) | h3)
      · exact .inl h3
      · exact .inr (.inr h3)
      · exact .inr (.inl h3)
  · rw [List.map_append, List.map_cons, ← List.map_take, ← List.map_drop]
    have hc0 : (((X ++ [s]).count s : Nat) : Int) = 1 := by
      rw [List.count_append, List.count_eq_zero_of_not_mem hsn]
      simp
    rw [hc0]
    congr 1
    · refine List.map_congr_left (fun a ha => ?_)
      have : a ≠ s := by
        rintro rfl
        exact irr _ (hA a ha)
      simp [Ne.symm this]
    · congr 1
      refine List.map_congr_left (fun a ha => ?_)
      have : a ≠ s := by
        rintro rfl
        exact irr _ (hB' a ha)
      simp [Ne.symm this]
theorem cnt_perm {X Y all : List α} {c : List Int} (hp : X.Perm Y) (h : CntOk lt X all c) : CntOk lt Y all c := by
  obtain ⟨h1, h2, rfl⟩ := h
  exact ⟨h1, fun s => (h2 s).trans hp.mem_iff, List.map_congr_left (fun a _ => by rw [hp.count_eq])⟩
/-- a list that is told by its names alone -/
theorem cnt_same (irr : ∀ a : α, ¬ lt a a) (tr : ∀ a b c : α, lt a b → lt b c → lt a c) {X Y all all' : List α} {c c' : List Int} (hp : X.Perm Y) (h : CntOk lt X all c) (h' : CntOk lt Y all' c') : all = all' ∧ c = c' := by
  obtain ⟨h1, h2, rfl⟩ := h
  obtain ⟨h1', h2', rfl⟩ := h'
  have nd : ∀ {l : List α}, l.Pairwise lt → l.Nodup := fun {l} hl => List.Pairwise.imp (S := fun a b => a ≠ b) (fun {a b} hab e => by
    subst e
    exact irr _ hab) hl
  have hpp : all.Perm all' := (List.perm_ext_iff_of_nodup (nd h1) (nd h1')).2 (fun a => by rw [h2, h2', hp.mem_iff])
  have key : ∀ {l m : List α}, l.Perm m → l.Pairwise lt → m.Pairwise lt → l = m := by
    intro l
    induction l with
    | nil => intro m hm _ _; exact (List.nil_perm.1 hm).symm
    | cons a l ih =>
      intro m hm hl hm2
      cases m with
      | nil => exact absurd hm.length_eq (by simp)
      | cons b m =>
        have e : a = b := by
          have ha : a ∈ b :: m := hm.mem_iff.1 (by simp)
          have hb : b ∈ a :: l := hm.mem_iff.2 (by simp)
          rcases List.mem_cons.1 ha with h3 | h3
          · exact h3
          · rcases List.mem_cons.1 hb with h4 | h4
            · exact h4.symm
            · exact absurd (tr _ _ _ ((List.pairwise_cons.1 hl).1 b h4) ((List.pairwise_cons.1 hm2).1 a h3)) (irr _)
        subst e
        rw [ih ((List.perm_cons a).1 hm) (List.pairwise_cons.1 hl).2 (List.pairwise_cons.1 hm2).2]
  obtain rfl := key hpp h1 h1'
  exact ⟨rfl, List.map_congr_left (fun a _ => by rw [hp.count_eq])⟩
/-- the next one of a sorted list is a new one -/
theorem cnt_run_new (irr : ∀ a : α, ¬ lt a a) (tr : ∀ a b c : α, lt a b → lt b c → lt a c) (tri : ∀ a b : α, lt a b ∨ a = b ∨ lt b a) {M all : List α} {c : List Int} {i : Nat} (hi : i < M.length) (hs : ∀ p q (hp : p < M.length) (hq : q < M.length), p ≤ q → ¬ lt M[q] M[p]) (h : CntOk lt (M.take i) all c) (hne : i = 0 ∨ ∃ h : i - 1 < M.length, M[i - 1] ≠ M[i]) :
    CntOk lt (M.take (i + 1)) (all ++ [M[i]]) (c ++ [1]) := by
  have hA : ∀ a, a ∈ all.take all.length → lt a M[i] := by
    intro a ha
    rw [List.take_length] at ha
    obtain ⟨j, hj, rfl⟩ := List.mem_iff_getElem.1 ((h.2.1 a).1 ha)
    rw [List.length_take] at hj
    rw [List.getElem_take]
    have hji : j < i := by omega
    rcases tri M[j] M[i] with h3 | h3 | h3
    · exact h3
    · rcases hne with h4 | ⟨h4, h5⟩
      · omega
      · exfalso
        rcases tri M[i - 1] M[i] with h6 | h6 | h6
        · rw [← h3] at h6
          exact hs j (i - 1) (by omega) h4 (by omega) h6
        · exact h5 h6
        · exact hs (i - 1) i h4 hi (by omega) h6
    · exact absurd h3 (hs j i (by omega) hi (by omega))
  have h3 := cnt_new irr tr h (Nat.le_refl _) hA (fun h => absurd h (Nat.lt_irrefl _))
  have h4 := cnt_len h
  rw [List.take_length, List.drop_length, ← h4, List.take_length, List.drop_length] at h3
  rw [List.take_succ_eq_append_getElem hi]
  exact h3
/-- the next one of a sorted list is the last one again -/
theorem cnt_run_old (irr : ∀ a : α, ¬ lt a a) {M all : List α} {c : List Int} {i : Nat} (hi : i < M.length) (h0 : 0 < i) (hs : ∀ p q (hp : p < M.length) (hq : q < M.length), p ≤ q → ¬ lt M[q] M[p]) (h : CntOk lt (M.take i) all c) (he : M[i - 1]'(by omega) = M[i]) :
    0 < c.length ∧ CntOk lt (M.take (i + 1)) all (c.set (c.length - 1) (c.getD (c.length - 1) 0 + 1)) := by
  have h4 := cnt_len h
  have hm : M[i] ∈ all := (h.2.1 _).2 (by
    rw [← he]
    refine List.mem_iff_getElem.2 ⟨i - 1, by rw [List.length_take]; omega, ?_⟩
    rw [List.getElem_take])
  obtain ⟨j, hj, e⟩ := List.mem_iff_getElem.1 hm
  have hj2 : j = all.length - 1 := by
    rcases Nat.lt_or_ge j (all.length - 1) with h5 | h5
    · exfalso
      have h6 := List.pairwise_iff_getElem.1 h.1 j (all.length - 1) hj (by omega) h5
      obtain ⟨q, hq, e2⟩ := List.mem_iff_getElem.1 ((h.2.1 _).1 (List.getElem_mem (show all.length - 1 < all.length by omega)))
      rw [List.length_take] at hq
      rw [List.getElem_take] at e2
      rw [e, ← e2] at h6
      exact hs q i (by omega) hi (by omega) h6
    · omega
  refine ⟨by omega, ?_⟩
  rw [List.take_succ_eq_append_getElem hi, h4]
  exact cnt_old irr h (by omega) (by rw [← e]; congr 1; exact hj2.symm)
end
theorem cnt_bd {α : Type} [DecidableEq α] {lt : α → α → Prop} {X all : List α} {c : List Int} (h : CntOk lt X all c) (j : Nat) : 0 ≤ c.getD j 0 ∧ c.getD j 0 ≤ X.length := by
  obtain ⟨_, _, rfl⟩ := h
  rcases Nat.lt_or_ge j all.length with h1 | h1
  · have := List.count_le_length (a := all[j]) (l := X)
    simp [List.getD, h1]
    exact this
  · simp [List.getD, h1]
theorem ltS_irr (a : List UInt8) : ¬ a < a := List.lt_irrefl a
theorem ltS_tr (a b c : List UInt8) (h1 : a < b) (h2 : b < c) : a < c := List.lt_trans h1 h2
theorem ltS_tri (a b : List UInt8) : a < b ∨ a = b ∨ b < a := by
  by_cases h1 : a < b
  · exact .inl h1
  · by_cases h2 : b < a
    · exact .inr (.inr h2)
    · exact .inr (.inl (List.le_antisymm (List.not_lt.1 h2) (List.not_lt.1 h1)))
end Go.Proofs.Ytfecepjdjikenaa
