/- Plain Lean: the sort by insertion, on lists; a sort by counting keys down. No program in sight. -/
import Derived.Test.YtclcgckledbpfaaIns
namespace Go.Proofs.Ytclcgckledbpfaa
section
variable {α : Type} {lt : α → α → Bool}
def toL (g : Nat → α) (n : Nat) : List α := (List.range n).map g
theorem toL_len (g : Nat → α) (n : Nat) : (toL g n).length = n := by simp [toL]
theorem toL_get (g : Nat → α) {n i : Nat} (h : i < n) : (toL g n)[i]? = some (g i) := by simp [toL, h]
theorem toL_getD (g : Nat → α) {n i : Nat} (d : α) (h : i < n) : (toL g n).getD i d = g i := by simp [List.getD, toL_get g h]
theorem toL_congr {f g : Nat → α} {n : Nat} (h : ∀ i, i < n → f i = g i) : toL f n = toL g n := List.map_congr_left (fun i hi => h i (List.mem_range.1 hi))
theorem toL_of (L : List α) (d : α) : toL (fun i => L.getD i d) L.length = L := by
  apply List.ext_getElem?
  intro i
  rcases Nat.lt_or_ge i L.length with h | h
  · rw [toL_get _ h]; simp [List.getD, h]
  · rw [List.getElem?_eq_none (by rw [toL_len]; exact h), List.getElem?_eq_none h]
theorem toL_put (g : Nat → α) (p : Nat) (x : α) (n : Nat) (hp : p ≤ n) : toL (putF g p x) (n + 1) = (toL g n).take p ++ x :: (toL g n).drop p := by
  have hl : ((toL g n).take p).length = p := by rw [List.length_take, toL_len]; omega
  have hl2 : ((toL g n).take p ++ x :: (toL g n).drop p).length = n + 1 := by rw [List.length_append, hl, List.length_cons, List.length_drop, toL_len]; omega
  apply List.ext_getElem?
  intro i
  rcases Nat.lt_or_ge i (n + 1) with hi | hi
  · rw [toL_get _ hi]
    rcases Nat.lt_trichotomy i p with h | h | h
    · rw [List.getElem?_append_left (by omega), List.getElem?_take_of_lt h, toL_get _ (by omega)]
      simp [putF, h]
    · subst h
      rw [List.getElem?_append_right (by omega), hl, Nat.sub_self]
      simp [putF]
    · rw [List.getElem?_append_right (by omega), hl]
      obtain ⟨j, hj⟩ : ∃ j, i = p + 1 + j := ⟨i - p - 1, by omega⟩
      subst hj
      rw [show p + 1 + j - p = j + 1 by omega, List.getElem?_cons_succ, List.getElem?_drop, toL_get _ (by omega)]
      simp only [putF]
      rw [if_neg (by omega), if_neg (by omega), show p + 1 + j - 1 = p + j by omega]
  · rw [List.getElem?_eq_none (by rw [toL_len]; exact hi), List.getElem?_eq_none (by rw [hl2]; exact hi)]
theorem posF_eq {x : α} {g : Nat → α} {p : Nat} : ∀ n, p ≤ n → (∀ i, p ≤ i → i < n → lt x (g i) = true) → (p = 0 ∨ lt x (g (p - 1)) = false) → posF lt x g n = p
  | 0, h, _, _ => by
    have : p = 0 := by omega
    subst this
    rfl
  | n + 1, h, h1, h2 => by
    unfold posF
    rcases Nat.lt_or_ge p (n + 1) with h3 | h3
    · rw [if_pos (h1 n (by omega) (by omega))]
      exact posF_eq n (by omega) (fun i a b => h1 i a (by omega)) h2
    · have : p = n + 1 := by omega
      subst this
      rcases h2 with h2 | h2
      · omega
      · rw [if_neg (by simp only [Nat.add_sub_cancel] at h2; rw [h2]; simp)]
/-- a list sorted by insertion -/
def srtL (lt : α → α → Bool) (d : α) (L : List α) : List α := toL (insO lt (fun i => L.getD i d) L.length) L.length
theorem srtL_len (d : α) (L : List α) : (srtL lt d L).length = L.length := toL_len _ _
theorem srtL_nil (d : α) : srtL lt d [] = [] := rfl
/-- x laid in behind the last that is not greater -/
def insL (lt : α → α → Bool) (d : α) (S : List α) (x : α) : List α := S.take (posF lt x (fun i => S.getD i d) S.length) ++ x :: S.drop (posF lt x (fun i => S.getD i d) S.length)
theorem srtL_snoc (d : α) (L : List α) (x : α) : srtL lt d (L ++ [x]) = insL lt d (srtL lt d L) x := by
  have hF : ∀ i, i < L.length → (L ++ [x]).getD i d = L.getD i d := fun i hi => by simp [List.getD, List.getElem?_append_left hi]
  have hx : (L ++ [x]).getD L.length d = x := by simp [List.getD]
  have hc := insO_congr (lt := lt) (f := fun i => (L ++ [x]).getD i d) (g := fun i => L.getD i d) L.length hF
  unfold srtL insL
  rw [List.length_append, List.length_singleton, toL_len]
  have e1 : posF lt x (fun i => (toL (insO lt (fun i => L.getD i d) L.length) L.length).getD i d) L.length = posF lt x (insO lt (fun i => (L ++ [x]).getD i d) L.length) L.length :=
    posF_congr _ (fun i hi => by rw [hc i hi]; exact toL_getD _ d hi)
  rw [e1, ← toL_congr (f := insO lt (fun i => (L ++ [x]).getD i d) L.length) (g := insO lt (fun i => L.getD i d) L.length) hc, ← toL_put _ _ _ _ (posF_le _ _ _)]
  refine toL_congr (fun i hi => ?_)
  rw [insO_succ _ _ _ (by omega), hx]
theorem insL_split {d : α} {A B : List α} {x : α} (h1 : ∀ b, b ∈ B → lt x b = true) (h2 : ∀ a, a ∈ A → lt x a = false) : insL lt d (A ++ B) x = A ++ x :: B := by
  have e : posF lt x (fun i => (A ++ B).getD i d) (A ++ B).length = A.length := by
    refine posF_eq _ (by simp) (fun i hi hn => ?_) ?_
    · simp only [List.getD, List.getElem?_append_right hi]
      rw [List.length_append] at hn
      have hb : i - A.length < B.length := by omega
      rw [List.getElem?_eq_getElem hb]
      exact h1 _ (List.getElem_mem hb)
    · rcases Nat.eq_zero_or_pos A.length with h0 | h0
      · exact .inl h0
      · right
        have ha : A.length - 1 < A.length := by omega
        simp only [List.getD, List.getElem?_append_left ha, List.getElem?_eq_getElem ha]
        exact h2 _ (List.getElem_mem ha)
  unfold insL
  rw [e, List.take_left', List.drop_left'] <;> rfl
end
end Go.Proofs.Ytclcgckledbpfaa
