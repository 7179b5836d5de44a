/- Contracts: the letters of a sample: the program's and the reference's; the law on them. -/
import Derived.Test.YtfecepjdjikenaaHold
import Derived.Test.YtfecepjdjikenaaSortIn
import Derived.Test.YtfecepjdjikenaaLetP
import Derived.Test.YtfecepjdjikenaaCmp
namespace Go.Proofs.Ytfecepjdjikenaa
open Go.RowKit
/-- the letters of a sample -/
def lettV (s : BS) : List UInt8 := letG s.mud s.sand s.rock 81
theorem ret_str {a b : List UInt8} (h : a = b) : Ending.returned (.string ⟨a.toArray⟩) = .returned (.string ⟨b.toArray⟩) := by rw [h]
theorem ba_app (a b : Array UInt8) : (⟨a⟩ : ByteArray) ++ ⟨b⟩ = ⟨a ++ b⟩ := by
  apply ByteArray.ext
  simp
theorem ex0 : (⟨#[77, 83, 82]⟩ : ByteArray).extract 0 1 = ⟨#[77]⟩ := by kernel_rfl
theorem ex1 : (⟨#[77, 83, 82]⟩ : ByteArray).extract 1 2 = ⟨#[83]⟩ := by kernel_rfl
theorem ex2 : (⟨#[77, 83, 82]⟩ : ByteArray).extract 2 3 = ⟨#[82]⟩ := by kernel_rfl
theorem letG_len (m s r : Int) : ∀ k, (letG m s r k).length ≤ 3 * k
  | 0 => by simp [letG]
  | k + 1 => by
    have := letG_len m s r k
    unfold letG
    simp only [List.length_append]
    have h : ∀ (p : Prop) [Decidable p] (x : UInt8), (if p then [x] else []).length ≤ 1 := fun p _ x => by split <;> simp
    have h1 := h (m = 100 - (k : Int)) 77
    have h2 := h (s = 100 - (k : Int)) 83
    have h3 := h (r = 100 - (k : Int)) 82
    omega
theorem outV_len (m s r : Int) : ∀ k, (outV m s r k).length ≤ k
  | 0 => by simp [outV]
  | k + 1 => by
    have := outV_len m s r k
    unfold outV
    rw [List.length_append]
    split <;> simp <;> omega
theorem l18Letters_any (s : BS) (w : World) (h : okS s = true) : Calls Try.prog 75 #[.agg #[.int .i64 s.id, .int .i64 s.x, .int .i64 s.y, .int .i64 s.mud, .int .i64 s.sand, .int .i64 s.rock]] w fun e w' => e = .returned (.string ⟨(lettV s).toArray⟩) ∧ Below w.heap.size w w' := by
  obtain ⟨⟨_, _, ⟨m1, m2⟩, ⟨s1, s2⟩, ⟨r1, r2⟩⟩, _⟩ := okS_bd h
  clear h
  go_enter Try.func75, Try.ntmps75
  go_wp2
  go_loopw [3, 4] (fun v3 v4 wr => ∃ (k : Nat), k ≤ 81 ∧ v4 = .int .i64 (100 - k) ∧ v3 = .string ⟨(letG s.mud s.sand s.rock k).toArray⟩ ∧ Blk wr w.heap.size 29 #[.int .i64 s.id, .int .i64 s.x, .int .i64 s.y, .int .i64 s.mud, .int .i64 s.sand, .int .i64 s.rock] ∧ Below w.heap.size w wr) (fun _ v4 _ => (intOf v4).toNat)
  case atStart => exact ⟨0, by omega, rfl, rfl, Blk.new _ _ _, by repeat' (first | (with_reducible exact Below.refl _ _) | (with_reducible assumption) | (with_reducible refine Below.alloc ?_ ?_ _) | (with_reducible refine Below.drew ?_) | (with_reducible refine Below.setCell ?_ ?_ _) | (with_reducible refine Below.stepB (by assumption) ?_ ?_) | go_size)⟩
  case round =>
    obtain ⟨k, hk, rfl, rfl, hB, hbr⟩ := hrel
    have hlB := hB.lt
    have c2 : wr.cell? ⟨w.heap.size, 3, none⟩ = some (.int .i64 s.mud) := hB.cell 3
    have c3 : wr.cell? ⟨w.heap.size, 4, none⟩ = some (.int .i64 s.sand) := hB.cell 4
    have c4 : wr.cell? ⟨w.heap.size, 5, none⟩ = some (.int .i64 s.rock) := hB.cell 5
    have HB := Lib.hid hB
    clear hB
    by_cases hlt : k < 81
    · have hk20 : (20 : Int) ≤ 100 - (k : Int) := by omega
      have HL : Hid (letG s.mud s.sand s.rock (k + 1) = letG s.mud s.sand s.rock k ++ (if s.mud = 100 - (k : Int) then [77] else []) ++ (if s.sand = 100 - (k : Int) then [83] else []) ++ (if s.rock = 100 - (k : Int) then [82] else [])) := rfl
      have hSl := letG_len s.mud s.sand s.rock k
      generalize letG s.mud s.sand s.rock k = S at HL hSl ⊢
      have n1 : ¬ 9223372036854775807 < S.length + 1 := by omega
      have n2 : ¬ 9223372036854775807 < S.length + 1 + 1 := by omega
      have n3 : ¬ 9223372036854775807 < S.length + 1 + 1 + 1 := by omega
      clear hSl
      by_cases h1 : s.mud = 100 - (k : Int) <;> by_cases h2 : s.sand = 100 - (k : Int) <;> by_cases h3 : s.rock = 100 - (k : Int)
      all_goals
        have HE := Lib.hid (And.intro h1 (And.intro h2 h3))
        have g1 : (s.mud == 100 - (k : Int)) = decide (s.mud = 100 - (k : Int)) := rfl
        have g2 : (s.sand == 100 - (k : Int)) = decide (s.sand = 100 - (k : Int)) := rfl
        have g3 : (s.rock == 100 - (k : Int)) = decide (s.rock = 100 - (k : Int)) := rfl
        first | rw [decide_eq_true h1] at g1 | rw [decide_eq_false h1] at g1
        first | rw [decide_eq_true h2] at g2 | rw [decide_eq_false h2] at g2
        first | rw [decide_eq_true h3] at g3 | rw [decide_eq_false h3] at g3
        clear h1 h2 h3
        go_wp2
        go_roundw
        case rel => exact ⟨k + 1, by omega, by go_num, by rw [HL.out]; simp [ba_app, HE.out.1, HE.out.2.1, HE.out.2.2], HB.out, hbr⟩
        case measure => simp [intOf]; omega
    · obtain rfl : k = 81 := by omega
      go_wp2
      go_ret
      exact ⟨ret_str rfl, hbr⟩
def inThree (x : Int) : Prop := x = 0 ∨ x = 1 ∨ x = 2
theorem letCmp_any (m s r a b : Int) (B SB : Nat) (w : World) (hB : B < w.heap.size) (hSB : SB < w.heap.size) (hc : w.cell? ⟨B, 0, none⟩ = some (.slice (some ⟨SB, 0, none⟩) 3 3))
    (h0 : w.cell? ⟨SB, 0, none⟩ = some (.int .i64 m)) (h1 : w.cell? ⟨SB, 1, none⟩ = some (.int .i64 s)) (h2 : w.cell? ⟨SB, 2, none⟩ = some (.int .i64 r)) (ha : inThree a) (hb : inThree b) :
    Calls Try.prog 96 #[.int .i64 a, .int .i64 b, .pointer (some ⟨B, 0, none⟩)] w fun e w' => e = .returned (.int .i64 (cmpV (shareOf m s r b) (shareOf m s r a))) ∧ Below w.heap.size w w' := by
  rcases ha with rfl | rfl | rfl <;> rcases hb with rfl | rfl | rfl
  all_goals
    go_enter Try.func96, Try.ntmps96
    go_wp2
    refine wp_region_later (by kernel_rfl) (by kernel_rfl) (fun hlx => ?_)
    repeat (go_big_quiet_step ((go_at_call 81; exact Later.same (cmpInt_any _ _ _))))
    refine wpQuiet_nil ?_
    clear hlx
    intro w1 hbw1
    obtain ⟨hzw1, hcw1, hfw1⟩ := bfacts hbw1; (try simp at hzw1 hcw1 hfw1); (try (have : w.heap.size < w1.heap.size := by omega)); (try (have : w.heap.size + 1 < w1.heap.size := by omega)); (try (have : w.heap.size + 1 + 1 < w1.heap.size := by omega)); (try (have : w.heap.size + 1 + 1 + 1 < w1.heap.size := by omega))
    go_wp2
    go_ret
    exact ⟨ret_int (by simp [shareOf]), by repeat' (first | (with_reducible exact Below.refl _ _) | (with_reducible assumption) | (with_reducible refine Below.alloc ?_ ?_ _) | (with_reducible refine Below.drew ?_) | (with_reducible refine Below.setCell ?_ ?_ _) | (with_reducible refine Below.stepB (by assumption) ?_ ?_) | go_size)⟩
theorem enters_letCmp : ∀ args w, (callFunc 96 args).run Try.prog w = .ok (.enter 96 args) w := enters_of Try.func96 (by kernel_rfl) rfl
theorem ordV_three (m s r : Int) (k : Nat) (hk : k < 3) : inThree (ordV m s r k) := by
  have : k = 0 ∨ k = 1 ∨ k = 2 := by omega
  unfold inThree
  rcases ordV_cases m s r with ⟨_, _, e0, e1, e2⟩ | ⟨_, _, e0, e1, e2⟩ | ⟨_, _, e0, e1, e2⟩ | ⟨_, _, e0, e1, e2⟩ | ⟨_, _, e0, e1, e2⟩ | ⟨_, _, e0, e1, e2⟩ <;> rcases this with rfl | rfl | rfl <;> simp [e0, e1, e2]
theorem ord_sorted (m s r : Int) : insO (ltCIn fun a b => cmpV (shareOf m s r b) (shareOf m s r a)) (fun i => (i : Int)) 3 = ordV m s r := by
  have e : (ltCIn fun a b => cmpV (shareOf m s r b) (shareOf m s r a)) = fun a b => decide (shareOf m s r b < shareOf m s r a) := by
    funext a b
    unfold ltCIn
    rw [Bool.eq_iff_iff, decide_eq_true_eq, decide_eq_true_eq]
    exact cmpV_lt
  rw [e]
  rfl
theorem blk_newS {g : Nat} (w : World) (t : TypeId) (cs : Array Value) (hg : g = w.heap.size) : Blk (w.alloc (.cells cs t)) g t cs := by
  subst hg
  exact Blk.new w t cs
theorem Blk.cellK {w w' : World} {g : Nat} {t : TypeId} {cs : Array Value} {A : Option Addr} {n : Nat} (h : Blk w g t cs) (hk : Kept w w' A n) (hne : ∀ a, A = some a → g ≠ a.block) : Blk w' g t cs := (hk.block g h.lt (fun _ a ha => hne a ha)).trans h
theorem lettersOf_any (s : BS) (w : World) (h : okS s = true) : Calls Try.prog 76 #[.agg #[.int .i64 s.id, .int .i64 s.x, .int .i64 s.y, .int .i64 s.mud, .int .i64 s.sand, .int .i64 s.rock]] w fun e w' => e = .returned (.string ⟨(lettV s).toArray⟩) ∧ Below w.heap.size w w' := by
  obtain ⟨⟨_, _, ⟨m1, m2⟩, ⟨s1, s2⟩, ⟨r1, r2⟩⟩, _⟩ := okS_bd h
  have hL := Lib.hid (outV_letG s.mud s.sand s.rock m2 s2 r2)
  have hB1 := Lib.hid (((blk_newS (g := w.heap.size + 1) (w.alloc (.cells #[.int .i64 s.id, .int .i64 s.x, .int .i64 s.y, .int .i64 s.mud, .int .i64 s.sand, .int .i64 s.rock] 29)) 3 #[.int .i64 s.mud, .int .i64 s.sand, .int .i64 s.rock] (by simp)).alloc (.cells #[.int .i64 0, .int .i64 1, .int .i64 2] 3)).alloc (.cells #[.slice (some ⟨w.heap.size + 1, 0, none⟩) 3 3] 51))
  have hB2 := Lib.hid ((blk_newS (g := w.heap.size + 1 + 1) ((w.alloc (.cells #[.int .i64 s.id, .int .i64 s.x, .int .i64 s.y, .int .i64 s.mud, .int .i64 s.sand, .int .i64 s.rock] 29)).alloc (.cells #[.int .i64 s.mud, .int .i64 s.sand, .int .i64 s.rock] 3)) 3 #[.int .i64 0, .int .i64 1, .int .i64 2] (by simp)).alloc (.cells #[.slice (some ⟨w.heap.size + 1, 0, none⟩) 3 3] 51))
  have hB3 := Lib.hid (blk_newS (g := w.heap.size + 1 + 1 + 1) (((w.alloc (.cells #[.int .i64 s.id, .int .i64 s.x, .int .i64 s.y, .int .i64 s.mud, .int .i64 s.sand, .int .i64 s.rock] 29)).alloc (.cells #[.int .i64 s.mud, .int .i64 s.sand, .int .i64 s.rock] 3)).alloc (.cells #[.int .i64 0, .int .i64 1, .int .i64 2] 3)) 51 #[.slice (some ⟨w.heap.size + 1, 0, none⟩) 3 3] (by simp))
  clear h
  go_enter Try.func76, Try.ntmps76
  go_wp2_with fail
  refine (sortIn_any _ 3 3 w.heap.size (fun i => (i : Int)) inThree (fun a b => cmpV (shareOf s.mud s.sand s.rock b) (shareOf s.mud s.sand s.rock a)) 96 #[.pointer (some ⟨w.heap.size + 1 + 1 + 1, 0, none⟩)] _ ?_ (by decide) ?_ enters_letCmp ?_).mono ?_
  · exact fun _ => ⟨_, _, _, rfl, by omega, hB2.out, by simp, fun i j hi hj => by
      obtain rfl : j = 0 := by omega
      have : i = 0 ∨ i = 1 ∨ i = 2 := by omega
      rcases this with rfl | rfl | rfl <;> rfl⟩
  · intro i hi
    unfold inThree
    omega
  · intro a b W ha hb hK
    have k1 := hB1.out.cellK hK (fun a ha => by obtain rfl := Option.some.inj ha; simp)
    have k3 := hB3.out.cellK hK (fun a ha => by obtain rfl := Option.some.inj ha; simp)
    exact letCmp_any s.mud s.sand s.rock a b _ _ W k3.lt k1.lt (k3.cell 0) (k1.cell 0) (k1.cell 1) (k1.cell 2) ha hb
  rw [ord_sorted]
  rintro e w1 ⟨rfl, hO1, hk1⟩
  have k1 := hB1.out.cellK hk1 (fun a ha => by obtain rfl := Option.some.inj ha; simp)
  have k3 := hB3.out.cellK hk1 (fun a ha => by obtain rfl := Option.some.inj ha; simp)
  have y0 : w1.cell? ⟨w.heap.size + 1, 0, none⟩ = some (.int .i64 s.mud) := k1.cell 0
  have y1 : w1.cell? ⟨w.heap.size + 1, 1, none⟩ = some (.int .i64 s.sand) := k1.cell 1
  have y2 : w1.cell? ⟨w.heap.size + 1, 2, none⟩ = some (.int .i64 s.rock) := k1.cell 2
  have x0 : w1.cell? ⟨w.heap.size + 1 + 1 + 1, 0, none⟩ = some (.slice (some ⟨w.heap.size + 1, 0, none⟩) 3 3) := k3.cell 0
  have HO := Lib.hid hO1
  have HBF : Hid (Below w.heap.size w w1) := (show Below w.heap.size w _ from by repeat' (first | (with_reducible exact Below.refl _ _) | (with_reducible assumption) | (with_reducible refine Below.alloc ?_ ?_ _) | (with_reducible refine Below.drew ?_) | (with_reducible refine Below.setCell ?_ ?_ _) | (with_reducible refine Below.stepB (by assumption) ?_ ?_) | go_size)).trans (hk1.below (lo := w.heap.size) (hi := w.heap.size + 1 + 1 + 1) (fun _ a ha => by obtain rfl := Option.some.inj ha; exact ⟨by show w.heap.size ≤ w.heap.size + 1 + 1; omega, by show w.heap.size + 1 + 1 < w.heap.size + 1 + 1 + 1; omega⟩) (Nat.le_refl _) (by simp; omega))
  clear hO1 hk1 k1 k3
  go_wp2
  go_loopw [5, 21] (fun v5 v21 wr => ∃ k : Nat, k ≤ 3 ∧ v21 = .int .i64 k ∧ v5 = .string ⟨(outV s.mud s.sand s.rock k).toArray⟩ ∧ wr = w1) (fun _ v21 _ => 3 - (intOf v21).toNat)
  case atStart => exact ⟨0, by omega, rfl, rfl, rfl⟩
  case round =>
    obtain ⟨k, hk, rfl, rfl, rfl⟩ := hrel
    by_cases hlt : k < 3
    · have c0 := HO.out.at_ (i := k) (j := 0) hlt (by decide)
      simp only [Nat.mul_one, Nat.add_zero] at c0
      have HE : Hid (outV s.mud s.sand s.rock (k + 1) = outV s.mud s.sand s.rock k ++ (if 20 ≤ shareOf s.mud s.sand s.rock (ordV s.mud s.sand s.rock k) then [letOf (ordV s.mud s.sand s.rock k)] else [])) := rfl
      have ho := ordV_three s.mud s.sand s.rock k hlt
      generalize ordV s.mud s.sand s.rock k = o at c0 HE ho
      have hSl := outV_len s.mud s.sand s.rock k
      generalize outV s.mud s.sand s.rock k = S at HE hSl ⊢
      have n1 : ¬ 9223372036854775807 < S.length + 1 := by omega
      clear hSl
      rcases ho with rfl | rfl | rfl
      · by_cases hs : 20 ≤ s.mud
        · have HS : Hid (outV s.mud s.sand s.rock (k + 1) = S ++ [77]) := by show _ = _; rw [HE.out]; simp [shareOf, hs, letOf]
          go_wp2
          go_roundw
          case rel => exact ⟨k + 1, by omega, by go_num, by rw [HS.out]; simp [ba_app, ex0], by trivial⟩
          case measure => simp [intOf]; omega
        · have HS : Hid (outV s.mud s.sand s.rock (k + 1) = S) := by show _ = _; rw [HE.out]; simp [shareOf, hs]
          go_wp2
          go_roundw
          case rel => exact ⟨k + 1, by omega, by go_num, by rw [HS.out], by trivial⟩
          case measure => simp [intOf]; omega
      · by_cases hs : 20 ≤ s.sand
        · have HS : Hid (outV s.mud s.sand s.rock (k + 1) = S ++ [83]) := by show _ = _; rw [HE.out]; simp [shareOf, hs, letOf]
          go_wp2
          go_roundw
          case rel => exact ⟨k + 1, by omega, by go_num, by rw [HS.out]; simp [ba_app, ex1], by trivial⟩
          case measure => simp [intOf]; omega
        · have HS : Hid (outV s.mud s.sand s.rock (k + 1) = S) := by show _ = _; rw [HE.out]; simp [shareOf, hs]
          go_wp2
          go_roundw
          case rel => exact ⟨k + 1, by omega, by go_num, by rw [HS.out], by trivial⟩
          case measure => simp [intOf]; omega
      · by_cases hs : 20 ≤ s.rock
        · have HS : Hid (outV s.mud s.sand s.rock (k + 1) = S ++ [82]) := by show _ = _; rw [HE.out]; simp [shareOf, hs, letOf]
          go_wp2
          go_roundw
          case rel => exact ⟨k + 1, by omega, by go_num, by rw [HS.out]; simp [ba_app, ex2], by trivial⟩
          case measure => simp [intOf]; omega
        · have HS : Hid (outV s.mud s.sand s.rock (k + 1) = S) := by show _ = _; rw [HE.out]; simp [shareOf, hs]
          go_wp2
          go_roundw
          case rel => exact ⟨k + 1, by omega, by go_num, by rw [HS.out], by trivial⟩
          case measure => simp [intOf]; omega
    · obtain rfl : k = 3 := by omega
      go_wp2
      go_ret
      exact ⟨by rw [hL.out]; rfl, HBF.out⟩
theorem LettersOf_yes (s : BS) (w : World) (h : okS s = true) : Calls Try.prog 33 #[.agg #[.int .i64 s.id, .int .i64 s.x, .int .i64 s.y, .int .i64 s.mud, .int .i64 s.sand, .int .i64 s.rock]] w fun e w' => e = .returned (.tuple #[.string ⟨(lettV s).toArray⟩, .bool true]) ∧ Below w.heap.size w w' := by
  go_enter Try.func33, Try.ntmps33
  go_wp2_with (first | (go_at_call 17; refine (IsSample_any s _).mono ?_; rintro e w1 ⟨rfl, hbw1⟩; obtain ⟨hzw1, hcw1, hfw1⟩ := bfacts hbw1; (try simp at hzw1 hcw1 hfw1); (try (have : w.heap.size < w1.heap.size := by omega)); (try (have : w.heap.size + 1 < w1.heap.size := by omega)); (try (have : w.heap.size + 1 + 1 < w1.heap.size := by omega)); (try (have : w.heap.size + 1 + 1 + 1 < w1.heap.size := by omega))) | (go_at_call 76; refine (lettersOf_any s _ h).mono ?_; rintro e w2 ⟨rfl, hbw2⟩; obtain ⟨hzw2, hcw2, hfw2⟩ := bfacts hbw2; (try simp at hzw2 hcw2 hfw2); (try (have : w.heap.size < w2.heap.size := by omega)); (try (have : w.heap.size + 1 < w2.heap.size := by omega)); (try (have : w.heap.size + 1 + 1 < w2.heap.size := by omega)); (try (have : w.heap.size + 1 + 1 + 1 < w2.heap.size := by omega))))
  go_returns
  exact ⟨rfl, by repeat' (first | (with_reducible exact Below.refl _ _) | (with_reducible assumption) | (with_reducible refine Below.alloc ?_ ?_ _) | (with_reducible refine Below.drew ?_) | (with_reducible refine Below.setCell ?_ ?_ _) | (with_reducible refine Below.stepB (by assumption) ?_ ?_) | go_size)⟩
theorem LettersOf_no (s : BS) (w : World) (h : okS s = false) : Calls Try.prog 33 #[.agg #[.int .i64 s.id, .int .i64 s.x, .int .i64 s.y, .int .i64 s.mud, .int .i64 s.sand, .int .i64 s.rock]] w fun e w' => e = .returned (.tuple #[.string ⟨#[]⟩, .bool false]) ∧ Below w.heap.size w w' := by
  go_enter Try.func33, Try.ntmps33
  go_wp2_with (first | (go_at_call 17; refine (IsSample_any s _).mono ?_; rintro e w1 ⟨rfl, hbw1⟩; obtain ⟨hzw1, hcw1, hfw1⟩ := bfacts hbw1; (try simp at hzw1 hcw1 hfw1); (try (have : w.heap.size < w1.heap.size := by omega)); (try (have : w.heap.size + 1 < w1.heap.size := by omega)); (try (have : w.heap.size + 1 + 1 < w1.heap.size := by omega)); (try (have : w.heap.size + 1 + 1 + 1 < w1.heap.size := by omega))))
  go_returns
  exact ⟨rfl, by repeat' (first | (with_reducible exact Below.refl _ _) | (with_reducible assumption) | (with_reducible refine Below.alloc ?_ ?_ _) | (with_reducible refine Below.drew ?_) | (with_reducible refine Below.setCell ?_ ?_ _) | (with_reducible refine Below.stepB (by assumption) ?_ ?_) | go_size)⟩
theorem specLetters_yes (s : BS) (w : World) (h : okS s = true) : Calls Try.prog 32 #[.agg #[.int .i64 s.id, .int .i64 s.x, .int .i64 s.y, .int .i64 s.mud, .int .i64 s.sand, .int .i64 s.rock]] w fun e w' => e = .returned (.tuple #[.string ⟨(lettV s).toArray⟩, .bool true]) ∧ Below w.heap.size w w' := by
  go_enter Try.func32, Try.ntmps32
  go_wp2_with (first | (go_at_call 62; refine (l18One_any s _).mono ?_; rintro e w1 ⟨rfl, hbw1⟩; obtain ⟨hzw1, hcw1, hfw1⟩ := bfacts hbw1; (try simp at hzw1 hcw1 hfw1); (try (have : w.heap.size < w1.heap.size := by omega)); (try (have : w.heap.size + 1 < w1.heap.size := by omega)); (try (have : w.heap.size + 1 + 1 < w1.heap.size := by omega)); (try (have : w.heap.size + 1 + 1 + 1 < w1.heap.size := by omega))) | (go_at_call 75; refine (l18Letters_any s _ h).mono ?_; rintro e w2 ⟨rfl, hbw2⟩; obtain ⟨hzw2, hcw2, hfw2⟩ := bfacts hbw2; (try simp at hzw2 hcw2 hfw2); (try (have : w.heap.size < w2.heap.size := by omega)); (try (have : w.heap.size + 1 < w2.heap.size := by omega)); (try (have : w.heap.size + 1 + 1 < w2.heap.size := by omega)); (try (have : w.heap.size + 1 + 1 + 1 < w2.heap.size := by omega))))
  go_returns
  exact ⟨rfl, by repeat' (first | (with_reducible exact Below.refl _ _) | (with_reducible assumption) | (with_reducible refine Below.alloc ?_ ?_ _) | (with_reducible refine Below.drew ?_) | (with_reducible refine Below.setCell ?_ ?_ _) | (with_reducible refine Below.stepB (by assumption) ?_ ?_) | go_size)⟩
theorem specLetters_no (s : BS) (w : World) (h : okS s = false) : Calls Try.prog 32 #[.agg #[.int .i64 s.id, .int .i64 s.x, .int .i64 s.y, .int .i64 s.mud, .int .i64 s.sand, .int .i64 s.rock]] w fun e w' => e = .returned (.tuple #[.string ⟨#[]⟩, .bool false]) ∧ Below w.heap.size w w' := by
  go_enter Try.func32, Try.ntmps32
  go_wp2_with (first | (go_at_call 62; refine (l18One_any s _).mono ?_; rintro e w1 ⟨rfl, hbw1⟩; obtain ⟨hzw1, hcw1, hfw1⟩ := bfacts hbw1; (try simp at hzw1 hcw1 hfw1); (try (have : w.heap.size < w1.heap.size := by omega)); (try (have : w.heap.size + 1 < w1.heap.size := by omega)); (try (have : w.heap.size + 1 + 1 < w1.heap.size := by omega)); (try (have : w.heap.size + 1 + 1 + 1 < w1.heap.size := by omega))))
  go_returns
  exact ⟨rfl, by repeat' (first | (with_reducible exact Below.refl _ _) | (with_reducible assumption) | (with_reducible refine Below.alloc ?_ ?_ _) | (with_reducible refine Below.drew ?_) | (with_reducible refine Below.setCell ?_ ?_ _) | (with_reducible refine Below.stepB (by assumption) ?_ ?_) | go_size)⟩
theorem law_LettersOf (s : BS) (w : World) : Calls Try.prog 9 #[.agg #[.int .i64 s.id, .int .i64 s.x, .int .i64 s.y, .int .i64 s.mud, .int .i64 s.sand, .int .i64 s.rock]] w fun e w' => e = .returned (.bool true) ∧ Below w.heap.size w w' := by
  rcases Bool.eq_false_or_eq_true (okS s) with h | h
  · go_enter Try.func9, Try.ntmps9
    go_wp2_with (first | (go_at_call 16; refine (toBottomSample_any s _).mono ?_; rintro e w1 ⟨rfl, hbw1⟩; obtain ⟨hzw1, hcw1, hfw1⟩ := bfacts hbw1; (try simp at hzw1 hcw1 hfw1); (try (have : w.heap.size < w1.heap.size := by omega)); (try (have : w.heap.size + 1 < w1.heap.size := by omega)); (try (have : w.heap.size + 1 + 1 < w1.heap.size := by omega)); (try (have : w.heap.size + 1 + 1 + 1 < w1.heap.size := by omega))) | (go_at_call 32; refine (specLetters_yes s _ h).mono ?_; rintro e w1 ⟨rfl, hbw1⟩; obtain ⟨hzw1, hcw1, hfw1⟩ := bfacts hbw1; (try simp at hzw1 hcw1 hfw1); (try (have : w.heap.size < w1.heap.size := by omega)); (try (have : w.heap.size + 1 < w1.heap.size := by omega)); (try (have : w.heap.size + 1 + 1 < w1.heap.size := by omega)); (try (have : w.heap.size + 1 + 1 + 1 < w1.heap.size := by omega))) | (go_at_call 33; refine (LettersOf_yes s _ h).mono ?_; rintro e w1 ⟨rfl, hbw1⟩; obtain ⟨hzw1, hcw1, hfw1⟩ := bfacts hbw1; (try simp at hzw1 hcw1 hfw1); (try (have : w.heap.size < w1.heap.size := by omega)); (try (have : w.heap.size + 1 < w1.heap.size := by omega)); (try (have : w.heap.size + 1 + 1 < w1.heap.size := by omega)); (try (have : w.heap.size + 1 + 1 + 1 < w1.heap.size := by omega))))
    go_ret
    exact ⟨rfl, by repeat' (first | (with_reducible exact Below.refl _ _) | (with_reducible assumption) | (with_reducible refine Below.alloc ?_ ?_ _) | (with_reducible refine Below.drew ?_) | (with_reducible refine Below.setCell ?_ ?_ _) | (with_reducible refine Below.stepB (by assumption) ?_ ?_) | go_size)⟩
  · go_enter Try.func9, Try.ntmps9
    go_wp2_with (first | (go_at_call 16; refine (toBottomSample_any s _).mono ?_; rintro e w1 ⟨rfl, hbw1⟩; obtain ⟨hzw1, hcw1, hfw1⟩ := bfacts hbw1; (try simp at hzw1 hcw1 hfw1); (try (have : w.heap.size < w1.heap.size := by omega)); (try (have : w.heap.size + 1 < w1.heap.size := by omega)); (try (have : w.heap.size + 1 + 1 < w1.heap.size := by omega)); (try (have : w.heap.size + 1 + 1 + 1 < w1.heap.size := by omega))) | (go_at_call 32; refine (specLetters_no s _ h).mono ?_; rintro e w1 ⟨rfl, hbw1⟩; obtain ⟨hzw1, hcw1, hfw1⟩ := bfacts hbw1; (try simp at hzw1 hcw1 hfw1); (try (have : w.heap.size < w1.heap.size := by omega)); (try (have : w.heap.size + 1 < w1.heap.size := by omega)); (try (have : w.heap.size + 1 + 1 < w1.heap.size := by omega)); (try (have : w.heap.size + 1 + 1 + 1 < w1.heap.size := by omega))) | (go_at_call 33; refine (LettersOf_no s _ h).mono ?_; rintro e w1 ⟨rfl, hbw1⟩; obtain ⟨hzw1, hcw1, hfw1⟩ := bfacts hbw1; (try simp at hzw1 hcw1 hfw1); (try (have : w.heap.size < w1.heap.size := by omega)); (try (have : w.heap.size + 1 < w1.heap.size := by omega)); (try (have : w.heap.size + 1 + 1 < w1.heap.size := by omega)); (try (have : w.heap.size + 1 + 1 + 1 < w1.heap.size := by omega))))
    go_ret
    exact ⟨rfl, by repeat' (first | (with_reducible exact Below.refl _ _) | (with_reducible assumption) | (with_reducible refine Below.alloc ?_ ?_ _) | (with_reducible refine Below.drew ?_) | (with_reducible refine Below.setCell ?_ ?_ _) | (with_reducible refine Below.stepB (by assumption) ?_ ?_) | go_size)⟩
end Go.Proofs.Ytfecepjdjikenaa
