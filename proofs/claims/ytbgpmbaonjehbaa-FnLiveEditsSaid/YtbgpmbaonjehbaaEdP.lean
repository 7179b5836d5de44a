/- Plain Lean for the laws on edits: what a list of edit steps is, what is live, shifted and accepted behind it; an undo behind a step; clean steps; untouched soundings. No program in sight. -/
import Derived.Test.YtbgpmbaonjehbaaLeaf
namespace Go.Proofs.Ytbgpmbaonjehbaa
structure ES where
  kind : Int
  mark : Int
  by_ : Int
  reason : List UInt8
  short : reason.length ≤ 100
def wordB (s : List UInt8) : Bool := s.all (fun c => decide (97 ≤ c.toNat) && decide (c.toNat ≤ 122)) && (decide (1 ≤ s.length) && decide (s.length ≤ 10))
def kindB (s : ES) : Bool := if s.kind = 0 ∨ s.kind = 1 then decide (s.by_ = 0) else if s.kind = 2 then inB s.by_ (-100) 100 && decide (s.by_ ≠ 0) else if s.kind = 3 then decide (s.by_ = 0) && decide (s.mark = 0) else false
def formB (marks : Int) (s : ES) : Bool := wordB s.reason && (inB s.mark 0 (marks - 1) && kindB s)
/-- the live steps behind the first k -/
def liveN (f : Nat → ES) : Nat → List Nat
  | 0 => []
  | k + 1 => if (f k).kind = 3 then (liveN f k).dropLast else liveN f k ++ [k]
theorem liveN_undo {f : Nat → ES} {k : Nat} (h : (f k).kind = 3) : liveN f (k + 1) = (liveN f k).dropLast := by rw [liveN, if_pos h]
theorem liveN_step {f : Nat → ES} {k : Nat} (h : (f k).kind ≠ 3) : liveN f (k + 1) = liveN f k ++ [k] := by rw [liveN, if_neg h]
theorem liveN_len (f : Nat → ES) : ∀ k, (liveN f k).length ≤ k
  | 0 => Nat.le_refl _
  | k + 1 => by
    have := liveN_len f k
    unfold liveN
    split
    · rw [List.length_dropLast]; omega
    · rw [List.length_append, List.length_singleton]; omega
theorem liveN_mem {f : Nat → ES} : ∀ {k i : Nat}, i ∈ liveN f k → i < k ∧ (f i).kind ≠ 3
  | 0, i, h => by simp [liveN] at h
  | k + 1, i, h => by
    by_cases h3 : (f k).kind = 3
    · rw [liveN_undo h3] at h
      rw [List.dropLast_eq_take] at h
      have := liveN_mem (List.mem_of_mem_take h)
      exact ⟨by omega, this.2⟩
    · rw [liveN_step h3, List.mem_append, List.mem_singleton] at h
      rcases h with h | rfl
      · have := liveN_mem h
        exact ⟨by omega, this.2⟩
      · exact ⟨by omega, h3⟩
theorem liveN_congr {f g : Nat → ES} : ∀ {k : Nat}, (∀ i, i < k → f i = g i) → liveN f k = liveN g k
  | 0, _ => rfl
  | k + 1, h => by rw [liveN, liveN, liveN_congr (fun i hi => h i (by omega)), h k (by omega)]
def shStep (f : Nat → ES) (mark : Int) (s : Int) (i : Nat) : Int := if (f i).mark = mark ∧ (f i).kind = 2 then s + (f i).by_ else s
def shiftV (f : Nat → ES) (L : List Nat) (mark : Int) : Int := L.foldl (shStep f mark) 0
def acStep (f : Nat → ES) (mark : Int) (a : Bool) (i : Nat) : Bool := if (f i).mark = mark ∧ (f i).kind ≠ 2 then decide ((f i).kind = 1) else a
def accV (f : Nat → ES) (L : List Nat) (mark : Int) : Bool := L.foldl (acStep f mark) true
def reaL (f : Nat → ES) (L : List Nat) (mark : Int) : List (List UInt8) := (L.filter (fun i => decide ((f i).mark = mark))).map (fun i => (f i).reason)
theorem shiftV_snoc (f : Nat → ES) (L : List Nat) (i : Nat) (mark : Int) : shiftV f (L ++ [i]) mark = shStep f mark (shiftV f L mark) i := by simp [shiftV]
theorem accV_snoc (f : Nat → ES) (L : List Nat) (i : Nat) (mark : Int) : accV f (L ++ [i]) mark = acStep f mark (accV f L mark) i := by simp [accV]
theorem foldl_congr {α β : Type} {p q : α → β → α} : ∀ {L : List β} {a : α}, (∀ a i, i ∈ L → p a i = q a i) → L.foldl p a = L.foldl q a
  | [], _, _ => rfl
  | x :: L, a, h => by
    rw [List.foldl_cons, List.foldl_cons, h a x (List.mem_cons_self ..)]
    exact foldl_congr (fun a i hi => h a i (List.mem_cons_of_mem _ hi))
theorem shiftV_congr {f g : Nat → ES} {L : List Nat} {mark : Int} (h : ∀ i, i ∈ L → f i = g i) : shiftV f L mark = shiftV g L mark := foldl_congr (fun a i hi => by rw [shStep, shStep, h i hi])
theorem accV_congr {f g : Nat → ES} {L : List Nat} {mark : Int} (h : ∀ i, i ∈ L → f i = g i) : accV f L mark = accV g L mark := foldl_congr (fun a i hi => by rw [acStep, acStep, h i hi])
def goodE (marks : Int) (f : Nat → ES) : Nat → Bool
  | 0 => true
  | k + 1 => goodE marks f k && (formB marks (f k) && ((decide ((f k).kind ≠ 3) || decide ((liveN f k).length ≠ 0)) && (decide ((f k).kind ≠ 2) || inB (shiftV f (liveN f k) (f k).mark + (f k).by_) (-500) 500)))
def goodEd (marks : Int) (f : Nat → ES) (n : Nat) : Bool := (inB marks 1 15 && decide (n ≤ 20)) && goodE marks f n
theorem goodE_parts {marks : Int} {f : Nat → ES} {k : Nat} : goodE marks f (k + 1) = true ↔ goodE marks f k = true ∧ formB marks (f k) = true ∧ ((f k).kind = 3 → (liveN f k).length ≠ 0) ∧ ((f k).kind = 2 → -500 ≤ shiftV f (liveN f k) (f k).mark + (f k).by_ ∧ shiftV f (liveN f k) (f k).mark + (f k).by_ ≤ 500) := by
  simp only [goodE, Bool.and_eq_true, Bool.or_eq_true, decide_eq_true_eq, inB_iff]
  constructor
  · rintro ⟨h1, h2, h3, h4⟩
    exact ⟨h1, h2, fun e => h3.resolve_left (fun h => h e), fun e => h4.resolve_left (fun h => h e)⟩
  · rintro ⟨h1, h2, h3, h4⟩
    refine ⟨h1, h2, ?_, ?_⟩
    · by_cases e : (f k).kind = 3
      · exact .inr (h3 e)
      · exact .inl e
    · by_cases e : (f k).kind = 2
      · exact .inr (h4 e)
      · exact .inl e
theorem goodE_not {marks : Int} {f : Nat → ES} {k : Nat} (h : goodE marks f (k + 1) = false) : ∀ n, k < n → goodE marks f n = false
  | 0, h0 => absurd h0 (by omega)
  | n + 1, h0 => by
    rcases Nat.lt_or_ge k n with h1 | h1
    · rw [goodE, goodE_not h n h1, Bool.false_and]
    · obtain rfl : k = n := by omega
      exact h
theorem goodE_le {marks : Int} {f : Nat → ES} : ∀ {n k : Nat}, goodE marks f n = true → k ≤ n → goodE marks f k = true
  | 0, k, h, hk => by obtain rfl : k = 0 := by omega
                      exact h
  | n + 1, k, h, hk => by
    rcases Nat.eq_or_lt_of_le hk with rfl | h1
    · exact h
    · exact goodE_le (goodE_parts.1 h).1 (by omega)
theorem goodE_congr {marks : Int} {f g : Nat → ES} : ∀ {k : Nat}, (∀ i, i < k → f i = g i) → goodE marks f k = goodE marks g k
  | 0, _ => rfl
  | k + 1, h => by
    have hl := liveN_congr (f := f) (g := g) (k := k) (fun i hi => h i (by omega))
    have hs : shiftV f (liveN g k) (g k).mark = shiftV g (liveN g k) (g k).mark := shiftV_congr (fun i hi => h i (by have := (liveN_mem hi).1; omega))
    rw [goodE, goodE, goodE_congr (fun i hi => h i (by omega)), hl, h k (by omega), hs]
theorem goodE_form {marks : Int} {f : Nat → ES} {n i : Nat} (h : goodE marks f n = true) (hi : i < n) : formB marks (f i) = true := (goodE_parts.1 (goodE_le h (show i + 1 ≤ n from hi))).2.1
theorem form_kind {marks : Int} {s : ES} (h : formB marks s = true) : (0 ≤ s.mark ∧ s.mark ≤ marks - 1) ∧ (s.kind = 0 ∨ s.kind = 1 ∨ s.kind = 2 ∨ s.kind = 3) ∧ (-100 ≤ s.by_ ∧ s.by_ ≤ 100) ∧ (s.kind ≠ 2 → s.by_ = 0) ∧ (s.kind = 3 → s.mark = 0) := by
  simp only [formB, Bool.and_eq_true, inB_iff] at h
  obtain ⟨_, h1, h2⟩ := h
  refine ⟨h1, ?_⟩
  unfold kindB at h2
  split at h2
  · have := of_decide_eq_true h2
    omega
  · split at h2
    · simp only [Bool.and_eq_true, inB_iff] at h2
      omega
    · split at h2
      · simp only [Bool.and_eq_true, decide_eq_true_eq] at h2
        omega
      · cases h2
/-- the shift of every sounding is within its bounds behind every part of the live steps -/
theorem shift_bd {marks : Int} {f : Nat → ES} : ∀ {k : Nat}, goodE marks f k = true → ∀ (p : Nat) (mark : Int), -500 ≤ shiftV f ((liveN f k).take p) mark ∧ shiftV f ((liveN f k).take p) mark ≤ 500
  | 0, _, p, mark => by simp [liveN, shiftV]
  | k + 1, h, p, mark => by
    obtain ⟨h1, h2, h3, h4⟩ := goodE_parts.1 h
    have ih := shift_bd h1
    by_cases e : (f k).kind = 3
    · rw [liveN_undo e, List.dropLast_eq_take, List.take_take]
      exact ih _ mark
    · rw [liveN_step e]
      rcases Nat.lt_or_ge (liveN f k).length p with hp | hp
      · rw [List.take_of_length_le (by rw [List.length_append, List.length_singleton]; omega), shiftV_snoc]
        have hw := ih (liveN f k).length
        rw [List.take_length] at hw
        unfold shStep
        split
        · rename_i hc
          have := h4 hc.2
          rw [hc.1] at this
          exact this
        · exact hw mark
      · rw [List.take_append_of_le_length hp]
        exact ih p mark
theorem shift_all {marks : Int} {f : Nat → ES} {k : Nat} (h : goodE marks f k = true) (mark : Int) : -500 ≤ shiftV f (liveN f k) mark ∧ shiftV f (liveN f k) mark ≤ 500 := by
  have := shift_bd h (liveN f k).length mark
  rwa [List.take_length] at this
/-! An undo behind a step. -/
def stUndo : ES := ⟨3, 0, 0, [98, 97, 99, 107], by decide⟩
def putE (f : Nat → ES) (n : Nat) (s : ES) : Nat → ES := fun i => if i = n then s else f i
theorem putE_lt {f : Nat → ES} {n i : Nat} {s : ES} (h : i < n) : putE f n s i = f i := by rw [putE, if_neg (by omega)]
theorem putE_at (f : Nat → ES) (n : Nat) (s : ES) : putE f n s n = s := by rw [putE, if_pos rfl]
theorem undo_good {marks : Int} {f : Nat → ES} {n : Nat} {s : ES} (h : goodEd marks (putE f n s) (n + 1) = true) (hs : s.kind ≠ 3) : goodEd marks (putE (putE f n s) (n + 1) stUndo) (n + 1 + 1) = decide (n + 1 < 20) := by
  simp only [goodEd, Bool.and_eq_true, decide_eq_true_eq, inB_iff] at h
  obtain ⟨⟨h1, h2⟩, h3⟩ := h
  have hg : goodE marks (putE (putE f n s) (n + 1) stUndo) (n + 1 + 1) = true := by
    refine goodE_parts.2 ⟨?_, ?_, ?_, ?_⟩
    · rw [goodE_congr (g := putE f n s) (fun i hi => putE_lt hi)]
      exact h3
    · rw [putE_at]
      simp only [formB, Bool.and_eq_true, inB_iff]
      exact ⟨by decide, ⟨by simp [stUndo], by simp [stUndo]; omega⟩, by decide⟩
    · intro _
      rw [liveN_congr (g := putE f n s) (fun i hi => putE_lt hi), liveN_step (by rw [putE_at]; exact hs)]
      simp
    · rw [putE_at]
      intro e
      exact absurd e (by decide)
  rw [Bool.eq_iff_iff, goodEd, hg]
  simp only [Bool.and_eq_true, decide_eq_true_eq, inB_iff, and_true]
  omega
theorem undo_live {f : Nat → ES} {n : Nat} {s : ES} (hs : s.kind ≠ 3) : liveN (putE (putE f n s) (n + 1) stUndo) (n + 1 + 1) = liveN f n := by
  rw [liveN_undo (by rw [putE_at]; rfl), liveN_congr (g := putE f n s) (fun i hi => putE_lt hi), liveN_step (by rw [putE_at]; exact hs), List.dropLast_concat, liveN_congr (g := f) (fun i hi => putE_lt hi)]
theorem undo_same {f : Nat → ES} {n : Nat} {s u : ES} {i : Nat} (hi : i ∈ liveN f n) : putE (putE f n s) (n + 1) u i = f i := by
  have := (liveN_mem hi).1
  rw [putE_lt (by omega), putE_lt this]
theorem undo_acc {f : Nat → ES} {n : Nat} {s : ES} (hs : s.kind ≠ 3) (mark : Int) : accV (putE (putE f n s) (n + 1) stUndo) (liveN (putE (putE f n s) (n + 1) stUndo) (n + 1 + 1)) mark = accV f (liveN f n) mark := by
  rw [undo_live hs]
  exact accV_congr (fun i hi => undo_same hi)
theorem undo_shift {f : Nat → ES} {n : Nat} {s : ES} (hs : s.kind ≠ 3) (mark : Int) : shiftV (putE (putE f n s) (n + 1) stUndo) (liveN (putE (putE f n s) (n + 1) stUndo) (n + 1 + 1)) mark = shiftV f (liveN f n) mark := by
  rw [undo_live hs]
  exact shiftV_congr (fun i hi => undo_same hi)
theorem good_before {marks : Int} {f : Nat → ES} {n : Nat} {s : ES} (h : goodEd marks (putE f n s) (n + 1) = true) : goodEd marks f n = true := by
  simp only [goodEd, Bool.and_eq_true, decide_eq_true_eq] at h ⊢
  refine ⟨⟨h.1.1, by omega⟩, ?_⟩
  rw [← goodE_congr (f := putE f n s) (fun i hi => putE_lt hi)]
  exact goodE_le h.2 (by omega)
/-! Clean steps. -/
def clnF (f : Nat → ES) (L : List Nat) (i : Nat) : ES := f (L.getD i 0)
theorem cln_get {L : List Nat} {i : Nat} (h : i < L.length) : L.getD i 0 ∈ L := by
  rw [List.getD, List.getElem?_eq_getElem h]
  exact List.getElem_mem h
theorem cln_live {f : Nat → ES} {n : Nat} : ∀ k, k ≤ (liveN f n).length → liveN (clnF f (liveN f n)) k = List.range k
  | 0, _ => rfl
  | k + 1, hk => by
    rw [liveN_step (f := clnF f (liveN f n)) (liveN_mem (cln_get (show k < (liveN f n).length by omega))).2, cln_live k (by omega), List.range_succ]
theorem foldl_range {α : Type} (p : α → Nat → α) (a : α) (L : List Nat) : ∀ k, k ≤ L.length → (List.range k).foldl (fun a i => p a (L.getD i 0)) a = (L.take k).foldl p a
  | 0, _ => by simp
  | k + 1, hk => by
    have h : L.take (k + 1) = L.take k ++ [L.getD k 0] := by
      rw [List.take_succ_eq_append_getElem (by omega)]
      simp [List.getD, show k < L.length by omega]
    rw [List.range_succ, List.foldl_append, h, List.foldl_append, foldl_range p a L k (by omega)]
    rfl
theorem cln_shift {f : Nat → ES} {L : List Nat} {k : Nat} (hk : k ≤ L.length) (mark : Int) : shiftV (clnF f L) (List.range k) mark = shiftV f (L.take k) mark := foldl_range (shStep f mark) 0 L k hk
theorem cln_acc {f : Nat → ES} {L : List Nat} {k : Nat} (hk : k ≤ L.length) (mark : Int) : accV (clnF f L) (List.range k) mark = accV f (L.take k) mark := foldl_range (acStep f mark) true L k hk
theorem cln_goodE {marks : Int} {f : Nat → ES} {n : Nat} (h : goodE marks f n = true) : ∀ k, k ≤ (liveN f n).length → goodE marks (clnF f (liveN f n)) k = true
  | 0, _ => rfl
  | k + 1, hk => by
    have hm := liveN_mem (cln_get (show k < (liveN f n).length by omega))
    refine goodE_parts.2 ⟨cln_goodE h k (by omega), (goodE_form h hm.1 : formB marks (f ((liveN f n).getD k 0)) = true), fun e => absurd e hm.2, fun e => ?_⟩
    have hb := shift_bd h (k + 1) (clnF f (liveN f n) k).mark
    have ht : (liveN f n).take (k + 1) = (liveN f n).take k ++ [(liveN f n).getD k 0] := by
      rw [List.take_succ_eq_append_getElem (by omega)]
      simp [List.getD, show k < (liveN f n).length by omega]
    rw [ht, shiftV_snoc, shStep, if_pos ⟨rfl, e⟩] at hb
    rw [cln_live k (by omega), cln_shift (by omega)]
    exact hb
theorem cln_good {marks : Int} {f : Nat → ES} {n : Nat} (h : goodEd marks f n = true) : goodEd marks (clnF f (liveN f n)) (liveN f n).length = true := by
  simp only [goodEd, Bool.and_eq_true, decide_eq_true_eq] at h ⊢
  have := liveN_len f n
  exact ⟨⟨h.1.1, by omega⟩, cln_goodE h.2 _ (Nat.le_refl _)⟩
theorem cln_accV {f : Nat → ES} {n : Nat} (mark : Int) : accV (clnF f (liveN f n)) (liveN (clnF f (liveN f n)) (liveN f n).length) mark = accV f (liveN f n) mark := by
  rw [cln_live _ (Nat.le_refl _), cln_acc (Nat.le_refl _), List.take_length]
theorem cln_shiftV {f : Nat → ES} {n : Nat} (mark : Int) : shiftV (clnF f (liveN f n)) (liveN (clnF f (liveN f n)) (liveN f n).length) mark = shiftV f (liveN f n) mark := by
  rw [cln_live _ (Nat.le_refl _), cln_shift (Nat.le_refl _), List.take_length]
/-! Soundings that no live step is of. -/
theorem rea_nil {f : Nat → ES} {L : List Nat} {mark : Int} : reaL f L mark = [] ↔ ∀ i, i ∈ L → (f i).mark ≠ mark := by
  unfold reaL
  rw [List.map_eq_nil_iff, List.filter_eq_nil_iff]
  simp
theorem shift_none {f : Nat → ES} {L : List Nat} {mark : Int} (h : reaL f L mark = []) : shiftV f L mark = 0 := by
  rw [rea_nil] at h
  have : ∀ (L : List Nat) (a : Int), (∀ i, i ∈ L → (f i).mark ≠ mark) → L.foldl (shStep f mark) a = a := by
    intro L
    induction L with
    | nil => intro a _; rfl
    | cons x L ih =>
      intro a h
      rw [List.foldl_cons, shStep, if_neg (fun hc => h x (List.mem_cons_self ..) hc.1)]
      exact ih a (fun i hi => h i (List.mem_cons_of_mem _ hi))
  exact this L 0 h
theorem acc_none {f : Nat → ES} {L : List Nat} {mark : Int} (h : reaL f L mark = []) : accV f L mark = true := by
  rw [rea_nil] at h
  have : ∀ (L : List Nat) (a : Bool), (∀ i, i ∈ L → (f i).mark ≠ mark) → L.foldl (acStep f mark) a = a := by
    intro L
    induction L with
    | nil => intro a _; rfl
    | cons x L ih =>
      intro a h
      rw [List.foldl_cons, acStep, if_neg (fun hc => h x (List.mem_cons_self ..) hc.1)]
      exact ih a (fun i hi => h i (List.mem_cons_of_mem _ hi))
  exact this L true h
/-- the reasons of the first q soundings -/
def reaSum (f : Nat → ES) (L : List Nat) : Nat → Nat
  | 0 => 0
  | q + 1 => reaSum f L q + (reaL f L q).length
theorem reaSum_eq (f : Nat → ES) (L : List Nat) : ∀ q : Nat, reaSum f L q = (L.filter (fun i => decide (0 ≤ (f i).mark) && decide ((f i).mark < q))).length
  | 0 => by
    rw [reaSum, List.filter_eq_nil_iff.2 (fun i _ => by simp; try omega)]
    rfl
  | q + 1 => by
    have key : ∀ L : List Nat, (L.filter (fun i => decide (0 ≤ (f i).mark) && decide ((f i).mark < ((q + 1 : Nat) : Int)))).length = (L.filter (fun i => decide (0 ≤ (f i).mark) && decide ((f i).mark < (q : Int)))).length + (L.filter (fun i => decide ((f i).mark = (q : Int)))).length := by
      intro L
      induction L with
      | nil => rfl
      | cons x L ih =>
        simp only [List.filter_cons]
        by_cases h0 : (f x).mark = q
        · rw [if_pos (by simp [h0]; omega), if_neg (by simp [h0]), if_pos (by simp [h0])]
          simp only [List.length_cons, ih]
          omega
        · by_cases h1 : 0 ≤ (f x).mark ∧ (f x).mark < q
          · rw [if_pos (by simp; omega), if_pos (by simp; omega), if_neg (by simp [h0])]
            simp only [List.length_cons, ih]
            omega
          · rw [if_neg (by simp; omega), if_neg (by simp; omega), if_neg (by simp [h0])]
            exact ih
    rw [reaSum, reaSum_eq f L q, key L, reaL, List.length_map]
theorem reaSum_all {marks : Nat} {f : Nat → ES} {n : Nat} (h : goodE marks f n = true) : reaSum f (liveN f n) marks = (liveN f n).length := by
  rw [reaSum_eq, List.filter_eq_self.2]
  intro i hi
  have := (form_kind (goodE_form h (liveN_mem hi).1)).1
  simp
  omega
end Go.Proofs.Ytbgpmbaonjehbaa
