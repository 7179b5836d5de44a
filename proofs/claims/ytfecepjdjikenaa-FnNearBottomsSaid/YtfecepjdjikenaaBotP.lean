/- Plain Lean for the law on bottoms: who holds enough is told; the counts sum up; a blend is a sample. No program in sight. -/
import Derived.Test.YtfecepjdjikenaaAnchL
import Derived.Test.YtfecepjdjikenaaCntL
import Derived.Test.YtfecepjdjikenaaBlend
import Derived.Test.YtfecepjdjikenaaHelp
namespace Go.Proofs.Ytfecepjdjikenaa
theorem good_asc {f : Nat → BS} : ∀ {n : Nat}, goodUpto f n = true → ∀ i j, i < j → j < n → (f i).id < (f j).id
  | 0, _, i, j, _, h => absurd h (by omega)
  | n + 1, hg, i, j, hij, hj => by
    simp only [goodUpto, Bool.and_eq_true, Bool.or_eq_true, decide_eq_true_eq] at hg
    obtain ⟨⟨h1, _⟩, h3⟩ := hg
    rcases Nat.lt_or_ge j n with h4 | h4
    · exact good_asc h1 i j hij h4
    · obtain rfl : j = n := by omega
      rcases h3 with h3 | h3
      · omega
      · rcases Nat.lt_or_ge i (j - 1) with h5 | h5
        · have := good_asc h1 i (j - 1) h5 (by omega)
          omega
        · have : i = j - 1 := by omega
          rw [this]
          exact h3
theorem pick_mem_iff {α : Type} {p : Nat → Bool} {f : Nat → α} {a : α} : ∀ {n : Nat}, a ∈ pick p f n ↔ ∃ i, i < n ∧ p i = true ∧ a = f i := by
  intro n
  constructor
  · exact pick_in
  · induction n with
    | zero => rintro ⟨i, h, _⟩; omega
    | succ n ih =>
      rintro ⟨i, h1, h2, h3⟩
      rcases Bool.eq_false_or_eq_true (p n) with hp | hp
      · rw [pick_hit hp, List.mem_append, List.mem_singleton]
        rcases Nat.lt_or_ge i n with h4 | h4
        · exact .inl (ih ⟨i, h4, h2, h3⟩)
        · obtain rfl : i = n := by omega
          exact .inr h3
      · rw [pick_miss hp]
        rcases Nat.lt_or_ge i n with h4 | h4
        · exact ih ⟨i, h4, h2, h3⟩
        · obtain rfl : i = n := by omega
          rw [hp] at h2; cases h2
theorem levN_mem {α : Type} {h : α → Int} {f : Nat → α} {n : Nat} {a : α} : ∀ {t : Nat}, a ∈ levN h f n t ↔ ∃ i, i < n ∧ (∃ k : Nat, k < t ∧ h (f i) = 100 - k) ∧ a = f i
  | 0 => by simp [levN]
  | t + 1 => by
    rw [levN, List.mem_append, levN_mem (t := t), pick_mem_iff]
    constructor
    · rintro (⟨i, h1, ⟨k, h2, h3⟩, h4⟩ | ⟨i, h1, h2, h3⟩)
      · exact ⟨i, h1, ⟨k, by omega, h3⟩, h4⟩
      · exact ⟨i, h1, ⟨t, by omega, by simpa using h2⟩, h3⟩
    · rintro ⟨i, h1, ⟨k, h2, h3⟩, h4⟩
      rcases Nat.lt_or_ge k t with h5 | h5
      · exact .inl ⟨i, h1, ⟨k, h5, h3⟩, h4⟩
      · obtain rfl : k = t := by omega
        exact .inr ⟨i, h1, by simpa using h3, h4⟩
theorem anch_mem {f : Nat → BS} {least : Int} {n : Nat} (hk : anchOk f least n = true) {i : Nat} (hi : i < n) : (f i).id ∈ anchL f least n ↔ least ≤ holdV (f i) := by
  obtain ⟨⟨hg, _⟩, hf⟩ : (goodUpto f n = true ∧ n ≤ 12) ∧ inB least 0 100 = true := by simpa [anchOk] using hk
  obtain ⟨f1, f2⟩ := inB_iff.1 hf
  obtain ⟨T, hT⟩ : ∃ T : Nat, (T : Int) = 101 - least := ⟨(101 - least).toNat, by omega⟩
  have hok := good_lt hg
  rw [anchL, if_pos hk, ← lev_anch f least n hok T hT, List.mem_map]
  have hb := hold_bd (hok i hi)
  constructor
  · rintro ⟨a, ha, e⟩
    obtain ⟨j, hj, ⟨k, h2, h3⟩, rfl⟩ := levN_mem.1 ha
    have : j = i := by
      rcases Nat.lt_trichotomy j i with h | h | h
      · have := good_asc hg j i h hi; omega
      · exact h
      · have := good_asc hg i j h hj; omega
    subst this
    omega
  · intro h
    exact ⟨f i, levN_mem.2 ⟨i, hi, ⟨(100 - holdV (f i)).toNat, by omega, by omega⟩, rfl⟩, rfl⟩
theorem sumK_cons (a : Int) (L : List Int) : ∀ k, sumK (a :: L) (k + 1) = a + sumK L k
  | 0 => by simp [sumK]
  | k + 1 => by
    rw [sumK, sumK_cons a L k, sumK]
    simp only [List.getD_cons_succ]
    omega
section
variable {α : Type}
def sumT (g : α → Int) : List α → Int
  | [] => 0
  | s :: D => g s + sumT g D
theorem sumK_map (g : α → Int) : ∀ D : List α, sumK (D.map g) D.length = sumT g D
  | [] => rfl
  | s :: D => by
    rw [List.map_cons, List.length_cons, sumK_cons, sumK_map g D]
    rfl
theorem sumT_add (g h : α → Int) : ∀ D : List α, sumT (fun s => g s + h s) D = sumT g D + sumT h D
  | [] => rfl
  | s :: D => by
    simp only [sumT]
    rw [sumT_add g h D]
    omega
theorem sumT_zero [DecidableEq α] (x : α) : ∀ D : List α, x ∉ D → sumT (fun s => if x = s then 1 else 0) D = 0
  | [], _ => rfl
  | s :: D, h => by
    rw [List.mem_cons, not_or] at h
    simp only [sumT]
    rw [if_neg h.1, sumT_zero x D h.2]
    rfl
theorem sumT_one [DecidableEq α] (x : α) : ∀ D : List α, D.Nodup → x ∈ D → sumT (fun s => if x = s then 1 else 0) D = 1
  | [], _, h => by simp at h
  | s :: D, hn, h => by
    rw [List.nodup_cons] at hn
    simp only [sumT]
    by_cases hx : x = s
    · subst hx
      rw [if_pos rfl, sumT_zero x D hn.1]
      rfl
    · rw [if_neg hx, sumT_one x D hn.2 ((List.mem_cons.1 h).resolve_left hx)]
      rfl
theorem count_sum [DecidableEq α] {D : List α} (hn : D.Nodup) : ∀ X : List α, (∀ x, x ∈ X → x ∈ D) → sumT (fun s => (X.count s : Int)) D = X.length
  | [], _ => by
    clear hn
    induction D with
    | nil => rfl
    | cons s D ih =>
      simp only [sumT]
      simp only [List.count_nil, List.length_nil] at ih ⊢
      rw [ih (fun _ h => by simp at h)]
      rfl
  | x :: X, h => by
    have e : (fun s => (((x :: X).count s : Nat) : Int)) = fun s => (X.count s : Int) + (if x = s then 1 else 0) := by
      funext s
      rw [List.count_cons]
      by_cases hx : x = s <;> simp [hx]
    rw [e, sumT_add, count_sum hn X (fun y hy => h y (List.mem_cons_of_mem _ hy)), sumT_one x D hn (h x (by simp))]
    simp
theorem cnt_sum [DecidableEq α] {lt : α → α → Prop} (irr : ∀ a : α, ¬ lt a a) {X D : List α} {C : List Int} (h : CntOk lt X D C) : sumK C C.length = X.length := by
  obtain ⟨h1, h2, rfl⟩ := h
  have hn : D.Nodup := List.Pairwise.imp (S := fun a b => a ≠ b) (fun {a b} hab e => by
    subst e
    exact irr _ hab) h1
  rw [List.length_map, sumK_map, count_sum hn X (fun x hx => (h2 x).2 hx)]
end
theorem mix_ok {a b : BS} {n : Int} (ha : okS a = true) (hb : okS b = true) (hn : inB n 0 100 = true) : okS ⟨1, 0, 0, mixV a.mud b.mud n, mixV a.sand b.sand n, 100 - mixV a.mud b.mud n - mixV a.sand b.sand n⟩ = true := by
  have ⟨⟨_, _, ⟨a1, a2⟩, ⟨a3, a4⟩, ⟨a5, a6⟩⟩, a7⟩ := okS_bd ha
  have ⟨⟨_, _, ⟨b1, b2⟩, ⟨b3, b4⟩, ⟨b5, b6⟩⟩, b7⟩ := okS_bd hb
  have ⟨n1, n2⟩ := inB_iff.1 hn
  have m1 := mul_bd a1 a2 (b := 100 - n) (by omega) (by omega)
  have m2 := mul_bd b1 b2 n1 n2
  have m3 := mul_bd a3 a4 (b := 100 - n) (by omega) (by omega)
  have m4 := mul_bd b3 b4 n1 n2
  have s1 : a.mud * (100 - n) + a.sand * (100 - n) ≤ 100 * (100 - n) := by
    rw [← Int.add_mul]
    exact Int.mul_le_mul_of_nonneg_right (by omega) (by omega)
  have s2 : b.mud * n + b.sand * n ≤ 100 * n := by
    rw [← Int.add_mul]
    exact Int.mul_le_mul_of_nonneg_right (by omega) n1
  unfold mixV
  generalize a.mud * (100 - n) = p1 at *
  generalize a.sand * (100 - n) = p2 at *
  generalize b.mud * n = p3 at *
  generalize b.sand * n = p4 at *
  simp [okS, inB, spotB]
  omega
theorem mix_zero (p q : Int) : mixV p q 0 = p := by
  unfold mixV
  simp
end Go.Proofs.Ytfecepjdjikenaa
