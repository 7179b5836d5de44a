/- Contracts: the dangers within a distance, the nearest first: the reference's. -/
import Derived.Test.YtclcgckledbpfaaDangerN
import Derived.Deep.DeepCutAuto
import Derived.Deep.RegionLaw
import Derived.Deep.RegionHeld3
namespace Go.Proofs.Ytclcgckledbpfaa
open Go.RowKit
theorem step_append_rowG {P : Program} {w : World} {ops : Array Oper} {o : Oper} {a : Act} {K : Act → World → Prop} {Q : Exit → Act → World → Prop} {E : Prop} (hgd : o.guard = none) (s x : Operand) (t : TypeId)
    (ho : o.op = .call { callee := .builtin .append, args := #[s, x], argTypes := #[t, t] })
    (base : Nat) (e : TypeId) (i : TypeInfo) (z : Value) (k bytes : Nat) (ht : P.underlying t = some (.slice e)) (hi : P.info? e = some i) (hz : i.zero = some z) (hsize : i.size = k) (hby : i.bytes = bytes)
    (hzs : z.cells.size = k) (hk : 0 < k)
    (v : Value) (n : Nat) (xs : List Value) (hs : a.eval s = v) (hown : w.ownsRow base e k v n xs)
    (b off m c : Nat) (g : Nat → Nat → Value) (hx : a.eval x = .slice (some ⟨b, off, none⟩) m c) (hcell : ∀ i j, i < m → j < k → w.cell? ⟨b, off + i * k + j, none⟩ = some (g i j))
    (h1 : ∀ i j, (g i j).oneCell' = true) (hn : n + m ≤ 1048576) (hbs : bytes ≤ 1000) (hbase : base ≤ w.heap.size)
    (h : ∀ v' w', w'.ownsRow base e k v' (n + m) (xs ++ flatG k g m) → Below base w w' → (∀ q, q < w.heap.size → some q ≠ v.ownBlock → w'.heap[q]? = w.heap[q]?) → K (a.put o.dst v') w') :
    if Region.wanted o (yielded ops a.tmps) = true then Oper.wp P o a w K Q else E := by
  have hw : Region.wanted o (yielded ops a.tmps) = true := by simp [Region.wanted, hgd]
  rw [if_pos hw]
  refine wp_append_own w s x t ho base e i z k bytes ht hi hz hsize hby hzs hk v n xs hs hown ⟨b, off, none⟩ m c (flatG k g m) hx (flatG_len k g m) ?_ ?_ (by unfold maxLen; omega) ?_ hbase ?_
  · intro q u hu
    obtain ⟨h2, h3, rfl⟩ := flatG_at hk hu
    have h4 := hcell _ _ h2 h3
    rw [Nat.add_assoc, Nat.mul_comm (q / k) k, Nat.div_add_mod] at h4
    rw [Addr.add_lit]
    exact h4
  · intro u hu
    obtain ⟨i, j, rfl⟩ := flatG_mem hu
    exact h1 i j
  · exact Nat.le_trans (Nat.mul_le_mul hn hbs) (by decide)
  · intro v' w' h1 h2 _
    refine h v' w' h1 ((Below.refl base w).grown h2 hbase ?_) (fun q hq hne => h2.block q hq hne)
    intro k hk
    rcases hown.2 with ⟨rfl, _⟩ | ⟨g, cap, cur, rfl, hg, _⟩
    · simp [Value.ownBlock] at hk
    · simp [Value.ownBlock] at hk
      omega
theorem ownsRow_blk {w : World} {base : Nat} {e : TypeId} {k g : Nat} (h : Blk w g e #[]) (hb : base ≤ g) : w.ownsRow base e k (.slice (some ⟨g, 0, none⟩) 0 0) 0 [] :=
  ⟨by simp, .inr ⟨g, 0, #[], rfl, hb, h, Nat.le_refl _, Nat.zero_le _, by simp, by simp⟩⟩
/-- the list with x laid in at place p -/
def layAt (S : List DG) (p : Nat) (x : DG) : List DG := S.take p ++ x :: S.drop p
theorem layAt_len (S : List DG) (p : Nat) (x : DG) (hp : p ≤ S.length) : (layAt S p x).length = S.length + 1 := by
  unfold layAt
  rw [List.length_append, List.length_cons, List.length_take, List.length_drop]
  omega
theorem layAt_get (S : List DG) (p : Nat) (x : DG) (hp : p ≤ S.length) (i : Nat) : (layAt S p x).getD i noDG = if i < p then S.getD i noDG else if i = p then x else S.getD (i - 1) noDG := by
  have hl : (S.take p).length = p := by rw [List.length_take]; omega
  unfold layAt
  simp only [List.getD]
  rcases Nat.lt_trichotomy i p with h | h | h
  · rw [List.getElem?_append_left (by omega), List.getElem?_take_of_lt h, if_pos h]
  · subst h
    rw [List.getElem?_append_right (by omega), hl, Nat.sub_self, if_neg (by omega), if_pos rfl]
    rfl
  · rw [List.getElem?_append_right (by omega), hl, if_neg (by omega), if_neg (by omega)]
    obtain ⟨j, hj⟩ : ∃ j, i = p + 1 + j := ⟨i - p - 1, by omega⟩
    subst hj
    rw [show p + 1 + j - p = j + 1 by omega, List.getElem?_cons_succ, List.getElem?_drop, show p + 1 + j - 1 = p + j by omega]
theorem flat3_get (S : List DG) (p m : Nat) (x : DG) (hm : S.length = m) (hp : p ≤ m) (i j : Nat) (hi : i < p + 1 + (m - p)) (hj : j < 7) :
    (flatG 7 (fun i j => (S.getD i noDG).cell j) p ++ flatG 7 (fun _ j => x.cell j) 1 ++ flatG 7 (fun i j => (S.getD (p + i) noDG).cell j) (m - p))[i * 7 + j]? = some (((layAt S p x).getD i noDG).cell j) := by
  rw [layAt_get S p x (by omega)]
  rcases Nat.lt_trichotomy i p with h | h | h
  · rw [List.append_assoc, List.getElem?_append_left (by rw [flatG_len]; omega), flatG_get h hj, if_pos h]
  · subst h
    rw [List.getElem?_append_left (by rw [List.length_append, flatG_len, flatG_len]; omega), List.getElem?_append_right (by rw [flatG_len]; omega), flatG_len, show i * 7 + j - i * 7 = 0 * 7 + j by omega, flatG_get (by omega) hj, if_neg (by omega), if_pos rfl]
  · rw [List.getElem?_append_right (by rw [List.length_append, flatG_len, flatG_len]; omega), List.length_append, flatG_len, flatG_len, if_neg (by omega), if_neg (by omega)]
    obtain ⟨q, hq⟩ : ∃ q, i = p + 1 + q := ⟨i - p - 1, by omega⟩
    subst hq
    rw [show (p + 1 + q) * 7 + j - (p * 7 + 1 * 7) = q * 7 + j by omega, flatG_get (by omega) hj, show p + 1 + q - 1 = p + q by omega]
theorem ownsRow_cap {w : World} {base : Nat} {e : TypeId} {k n c : Nat} {A : Option Addr} {xs : List Value} (h : w.ownsRow base e k (.slice A n c) n xs) : n ≤ c := by
  rcases h.2 with ⟨hv, h0⟩ | ⟨g, cap, cur, hv, hb, hh, hnc, _⟩
  · omega
  · injection hv with _ _ h3
    omega
theorem own_flat3 {w : World} {base : Nat} {e : TypeId} {A : Option Addr} {c m p : Nat} {S : List DG} {x : DG} (h : w.ownsRow base e 7 (.slice A (p + 1 + (m - p)) c) (p + 1 + (m - p)) (flatG 7 (fun i j => (S.getD i noDG).cell j) p ++ flatG 7 (fun _ j => x.cell j) 1 ++ flatG 7 (fun i j => (S.getD (p + i) noDG).cell j) (m - p)))
    (hm : S.length = m) (hp : p ≤ m) : m + 1 ≤ c ∧ Own w base 7 A (m + 1) (fun q j => ((layAt S p x).getD q noDG).cell j) := by
  have e1 : p + 1 + (m - p) = m + 1 := by omega
  have h2 : Own w base 7 A (p + 1 + (m - p)) (fun q j => ((layAt S p x).getD q noDG).cell j) := ownsRow_own h (fun i j hi hj => flat3_get S p m x hm hp i j hi hj)
  rw [e1] at h2
  exact ⟨by have := ownsRow_cap h; omega, h2⟩
theorem nearS_miss {f : Nat → DG} {x y far : Int} {k : Nat} (h : nearD f x y far k = false) : nearS f x y far (k + 1) = nearS f x y far k := by rw [nearS, nearL_miss h]; rfl
theorem nearS_hit {f : Nat → DG} {x y far : Int} {k p : Nat} (h : nearD f x y far k = true) (hp : p ≤ (nearS f x y far k).length) (h1 : ∀ q, p ≤ q → q < (nearS f x y far k).length → ltN x y (f k) ((nearS f x y far k).getD q noDG) = true)
    (h2 : p = 0 ∨ ltN x y (f k) ((nearS f x y far k).getD (p - 1) noDG) = false) : nearS f x y far (k + 1) = layAt (nearS f x y far k) p (f k) := by
  have e : nearS f x y far (k + 1) = insL (ltN x y) noDG (nearS f x y far k) (f k) := by
    rw [nearS, nearL_hit h, srtL_snoc]
    rfl
  rw [e]
  unfold insL layAt
  rw [posF_eq (g := fun i => (nearS f x y far k).getD i noDG) _ hp h1 h2]
theorem nearS_ok {f : Nat → DG} {x y far : Int} : ∀ (k : Nat), (∀ q, q < k → okD (f q) = true) → ∀ q, q < (nearS f x y far k).length → okD ((nearS f x y far k).getD q noDG) = true := by
  intro k
  induction k with
  | zero => intro _ q hq; exact absurd hq (by simp [nearS, nearL, pick, srtL, toL])
  | succ k ih =>
    intro hok q hq
    have ih' := ih (fun q hq => hok q (by omega))
    rcases Bool.eq_false_or_eq_true (nearD f x y far k) with h | h
    · have e : nearS f x y far (k + 1) = layAt (nearS f x y far k) (posF (ltN x y) (f k) (fun i => (nearS f x y far k).getD i noDG) (nearS f x y far k).length) (f k) := by
        rw [nearS, nearL_hit h, srtL_snoc]
        rfl
      have hp := posF_le (lt := ltN x y) (f k) (fun i => (nearS f x y far k).getD i noDG) (nearS f x y far k).length
      rw [e] at hq ⊢
      rw [layAt_len _ _ _ hp] at hq
      rw [layAt_get _ _ _ hp]
      split
      · exact ih' _ (by omega)
      · split
        · exact hok k (by omega)
        · exact ih' _ (by omega)
    · rw [nearS_miss h] at hq ⊢
      exact ih' q hq
set_option maxRecDepth 100000 in
set_option maxHeartbeats 4000000 in
theorem specWithin_yes (A : Option Addr) (n c : Nat) (f : Nat → DG) (x y far : Int) (w : World) (hS : SlDG w A n f) (hn : n ≤ 1048576) (hg : goodDAll f n = true) (hp : spotB x y = true) (hf : inB far 0 2000 = true) :
    Calls Try.prog 41 #[.slice A n c, .agg #[.int .i64 x, .int .i64 y], .int .i64 far] w fun e w' => IntsOut w ((nearS f x y far n).map DG.id) true e w' := by
  obtain ⟨hgd, h10⟩ := goodDAll_iff.1 hg
  have hok := Lib.hid (goodD_lt hgd)
  have hA := fun W (hb : Below w.heap.size w W) => l17Good_any A n c f W (hS.below hb) hn
  rw [hg] at hA
  have HA := Lib.hid hA
  have hP := fun W => l2Spot_any x y W
  rw [hp] at hP
  have HP := Lib.hid hP
  have HSQ := Lib.hid (fun k (hk : k < n) W => l17Square_any (f k).x (f k).y x y W (okD_spot (hok.out k hk)) hp)
  have HNO := Lib.hid (fun i (hi : i ≤ n) => nearS_ok (f := f) (x := x) (y := y) (far := far) i (fun q hq => hok.out q (by omega)))
  have HNQ := Lib.hid (fun i (hi : i ≤ n) q (hq : q < (nearS f x y far i).length) W => l17Square_any ((nearS f x y far i).getD q noDG).x ((nearS f x y far i).getD q noDG).y x y W (okD_spot (HNO.out i hi q hq)) hp)
  obtain ⟨q1, q2⟩ := far_bd hf
  obtain ⟨i0, hi0, hz0, hz1, hz2⟩ := info_parts info_Danger
  obtain ⟨j0, hj0, hy0, hy1, hy2⟩ := info_parts int_info
  have HS := Lib.hid hS
  have HLE := Lib.hid (fun k => nearS_len f x y far k)
  clear hA hS hg hgd hP
  go_enter Try.func41, Try.ntmps41
  go_wp2_with fail
  refine (HA.out _ (by repeat' (first | (with_reducible exact Below.refl _ _) | (with_reducible assumption) | (with_reducible refine Below.alloc ?_ ?_ _) | (with_reducible refine Below.drew ?_) | (with_reducible refine Below.setCell ?_ ?_ _) | (with_reducible refine Below.stepB (by assumption) ?_ ?_) | go_size))).mono ?_
  rintro e w1 ⟨rfl, hbw1⟩
  obtain ⟨hzw1, hcw1, hfw1⟩ := bfacts hbw1; (try simp at hzw1 hcw1 hfw1); (try (have : w.heap.size < w1.heap.size := by omega)); (try (have : w.heap.size + 1 < w1.heap.size := by omega)); (try (have : w.heap.size + 1 + 1 < w1.heap.size := by omega)); (try (have : w.heap.size + 1 + 1 + 1 < w1.heap.size := by omega))
  have l01 : w.heap.size < w1.heap.size := by omega
  go_wp2_with fail
  refine (HP.out _).mono ?_
  rintro e w2 ⟨rfl, hbw2⟩
  obtain ⟨hzw2, hcw2, hfw2⟩ := bfacts hbw2; (try simp at hzw2 hcw2 hfw2); (try (have : w.heap.size < w2.heap.size := by omega)); (try (have : w.heap.size + 1 < w2.heap.size := by omega)); (try (have : w.heap.size + 1 + 1 < w2.heap.size := by omega)); (try (have : w.heap.size + 1 + 1 + 1 < w2.heap.size := by omega))
  go_wp2_with (go_at_call 68; refine (l17Far_any _ _).mono ?_; rintro e w' ⟨rfl, rfl⟩)
  have hBx : Hid (Blk w2 w.heap.size 27 #[.int .i64 x, .int .i64 y]) := Blk.below (B := w.heap.size + 1) (blk_newN w _ _ rfl) (by repeat' (first | (with_reducible exact Below.refl _ _) | (with_reducible assumption) | (with_reducible refine Below.alloc ?_ ?_ _) | (with_reducible refine Below.drew ?_) | (with_reducible refine Below.setCell ?_ ?_ _) | (with_reducible refine Below.stepB (by assumption) ?_ ?_) | go_size)) (by omega)
  have hBW : Hid (Below w.heap.size w w2) := Lib.hid (by repeat' (first | (with_reducible exact Below.refl _ _) | (with_reducible assumption) | (with_reducible refine Below.alloc ?_ ?_ _) | (with_reducible refine Below.drew ?_) | (with_reducible refine Below.setCell ?_ ?_ _) | (with_reducible refine Below.stepB (by assumption) ?_ ?_) | go_size))
  clear hcw1 hfw1 hcw2 hfw2 hbw1 hbw2
  go_loopw [8, 9] (fun v8 v9 wr => ∃ (i b8 c8 : Nat), i ≤ n ∧ v9 = .int .i64 i ∧ v8 = .slice (some ⟨b8, 0, none⟩) (nearS f x y far i).length c8 ∧ (nearS f x y far i).length ≤ c8 ∧ b8 < wr.heap.size ∧ Hid (SlDG wr (some ⟨b8, 0, none⟩) (nearS f x y far i).length (fun q => (nearS f x y far i).getD q noDG)) ∧ Below w2.heap.size w2 wr) (fun _ v9 _ => n - (intOf v9).toNat)
  case atStart => exact ⟨0, _, _, Nat.zero_le _, rfl, rfl, Nat.zero_le _, by simp, fun h => absurd h (by simp [nearS, nearL, pick, srtL, toL]), by repeat' (first | (with_reducible exact Below.refl _ _) | (with_reducible assumption) | (with_reducible refine Below.alloc ?_ ?_ _) | (with_reducible refine Below.drew ?_) | (with_reducible refine Below.setCell ?_ ?_ _) | (with_reducible refine Below.stepB (by assumption) ?_ ?_) | go_size)⟩
  case round =>
    obtain ⟨i, b8, c8, hi, rfl, rfl, hc8, hb8, hN, hbr⟩ := hrel
    have hzr := hbr.size
    have hBr := Lib.hid (Blk.below hBx.out hbr (by omega))
    have x0 : wr.cell? ⟨w.heap.size, 0, none⟩ = some (.int .i64 x) := hBr.out.cell 0
    have x1 : wr.cell? ⟨w.heap.size, 1, none⟩ = some (.int .i64 y) := hBr.out.cell 1
    have lwr : w.heap.size < wr.heap.size := by omega
    have HWR := Lib.hid (show Below w.heap.size w wr from hBW.out.trans (hbr.mono (by omega)))
    by_cases hlt : i < n
    · obtain ⟨b, off, rfl, hbl, hbl2, c0, c1, c2, c3, c4, c5, c6, -⟩ := HS.out.at HWR.out hlt
      go_wp2
      refine wp_region_later (by kernel_rfl) (by kernel_rfl) (fun hlx => ?_)
      repeat (go_big_quiet_step ((go_at_call 69; exact Later.call (HSQ.out i hlt _))))
      refine wpQuiet_nil ?_
      clear hlx
      intro w3 hbw3
      obtain ⟨hzw3, hcw3, hfw3⟩ := bfacts hbw3; (try simp at hzw3 hcw3 hfw3); (try (have : w.heap.size < w3.heap.size := by omega)); (try (have : w.heap.size + 1 < w3.heap.size := by omega)); (try (have : w.heap.size + 1 + 1 < w3.heap.size := by omega)); (try (have : w.heap.size + 1 + 1 + 1 < w3.heap.size := by omega))
      have lb3 : b < w3.heap.size := by omega
      have lw3 : w.heap.size < w3.heap.size := by omega
      by_cases hq : far * far < sqD (f i).x (f i).y x y
      · have HE := Lib.hid (nearS_miss (f := f) (x := x) (y := y) (far := far) (k := i) (by simp [nearD]; omega))
        go_wp2
        go_roundw
        case rel => exact ⟨i + 1, b8, c8, by omega, by go_num, by rw [HE.out], by rw [HE.out]; exact hc8, by omega, by rw [HE.out]; exact hN.out.below hbw3, by repeat' (first | (with_reducible exact Below.refl _ _) | (with_reducible assumption) | (with_reducible refine Below.alloc ?_ ?_ _) | (with_reducible refine Below.drew ?_) | (with_reducible refine Below.setCell ?_ ?_ _) | (with_reducible refine Below.stepB (by assumption) ?_ ?_) | go_size)⟩
        case measure => simp [intOf]; omega
      · have HNEAR := Lib.hid (show nearD f x y far i = true by simp [nearD]; omega)
        have hq2 : sqD (f i).x (f i).y x y ≤ far * far := by omega
        have hHIT := Lib.hid (fun p hp h1 h2 => nearS_hit (f := f) (x := x) (y := y) (far := far) (k := i) (p := p) HNEAR.out hp h1 h2)
        have hlen := HLE.out i
        have HQ1 := Lib.hid (HNQ.out i hi)
        have HN3 := Lib.hid (show SlDG w3 (some ⟨b8, 0, none⟩) (nearS f x y far i).length (fun q => (nearS f x y far i).getD q noDG) from hN.out.below hbw3)
        have HB3R := Lib.hid hbw3
        have hzr3 := hbw3.size
        have hBW3 := Lib.hid (show Below w2.heap.size w2 w3 by repeat' (first | (with_reducible exact Below.refl _ _) | (with_reducible assumption) | (with_reducible refine Below.alloc ?_ ?_ _) | (with_reducible refine Below.drew ?_) | (with_reducible refine Below.setCell ?_ ?_ _) | (with_reducible refine Below.stepB (by assumption) ?_ ?_) | go_size))
        obtain ⟨S, hSE⟩ : ∃ S, nearS f x y far i = S := ⟨_, rfl⟩
        rw [hSE] at hHIT hlen HQ1 HN3 hc8 ⊢
        clear hSE hN c0 c1 c2 c3 c4 c5 c6 x0 x1 hbw3 hcw3 hfw3
        obtain ⟨m, hm⟩ : ∃ m, S.length = m := ⟨_, rfl⟩
        rw [hm] at hlen HN3 hc8 ⊢
        have HM := Lib.hid hm
        clear hm
        go_wp2
        go_loopw [10] (fun v10 wq => ∃ k, k ≤ m ∧ v10 = .int .i64 k ∧ Hid (∀ q, k ≤ q → q < m → ltN x y (f i) (S.getD q noDG) = true) ∧ Below w3.heap.size w3 wq) (fun v10 _ => (intOf v10).toNat)
        case atStart => exact ⟨m, Nat.le_refl _, rfl, fun q h1 h2 => absurd h2 (by omega), Below.refl _ _⟩
        case round =>
          rename World => wq
          obtain ⟨k, hk, rfl, hAB, hbq⟩ := hrel
          have hzq := hbq.size
          have hl8q : b8 < wq.heap.size := by omega
          have hlbq : b < wq.heap.size := by omega
          have hlwq : w.heap.size < wq.heap.size := by omega
          have HBRQ := Lib.hid (HB3R.out.trans (hbq.mono hzr3))
          have hBq := Blk.below hBr.out (B := wr.heap.size) (w' := wq) HBRQ.out (by omega)
          have x0 : wq.cell? ⟨w.heap.size, 0, none⟩ = some (.int .i64 x) := hBq.cell 0
          have x1 : wq.cell? ⟨w.heap.size, 1, none⟩ = some (.int .i64 y) := hBq.cell 1
          clear hBq
          rcases Nat.eq_zero_or_pos k with hk0 | hk0
          · have HSTOP : Hid (k = 0 ∨ ltN x y (f i) (S.getD (k - 1) noDG) = false) := .inl hk0
            have hg0 : decide ((k : Int) > 0) = false := decide_eq_false (by omega)
            have hg1 : ¬ (0 : Int) < (k : Int) := by omega
            have hg2 : decide ((0 : Int) < (k : Int)) = false := decide_eq_false hg1
            have hg3 : decide (0 < k) = false := decide_eq_false (by omega)
            have hg4 : ¬ 0 < k := by omega
            clear hk0
            go_wp2
            refine wp_region_later (by kernel_rfl) (by kernel_rfl) (fun hlx => ?_)
            repeat (go_big_quiet_step (fail))
            refine wpQuiet_nil ?_
            clear hlx
            intro w4 hbw4
            obtain ⟨hzw4, hcw4, hfw4⟩ := bfacts hbw4; (try simp at hzw4 hcw4 hfw4); (try (have : w.heap.size < w4.heap.size := by omega)); (try (have : w.heap.size + 1 < w4.heap.size := by omega)); (try (have : w.heap.size + 1 + 1 < w4.heap.size := by omega)); (try (have : w.heap.size + 1 + 1 + 1 < w4.heap.size := by omega))
            have HNEW := Lib.hid (hHIT.out k (by rw [HM.out]; exact hk) (by rw [HM.out]; exact hAB) HSTOP.out)
            have lb4 : b < w4.heap.size := by omega
            have l84 : b8 < w4.heap.size := by omega
            obtain ⟨bb, oo, hbo, _, hbl4, e0, e1, e2, e3, e4, e5, e6, -⟩ := HS.out.at (show Below w.heap.size w w4 from (HWR.out.trans (HBRQ.out.mono (by omega))).trans (hbw4.mono (by omega))) hlt
            obtain ⟨rfl, rfl⟩ : b = bb ∧ off = oo := by simpa using hbo
            have HN4 := Lib.hid (show SlDG w4 (some ⟨b8, 0, none⟩) m (fun q => S.getD q noDG) from HN3.out.below (by repeat' (first | (with_reducible exact Below.refl _ _) | (with_reducible assumption) | (with_reducible refine Below.alloc ?_ ?_ _) | (with_reducible refine Below.drew ?_) | (with_reducible refine Below.setCell ?_ ?_ _) | (with_reducible refine Below.stepB (by assumption) ?_ ?_) | go_size)))
            clear hbo hcw4 hfw4
            have hkc : k ≤ c8 := by omega
            have hmc : m ≤ c8 := hc8
            have HCN := Lib.hid (fun (W : World) (hb : Below w4.heap.size w4 W) (q j : Nat) (hq : q < m) (hj : j < 7) => show W.cell? ⟨b8, 0 + q * 7 + j, none⟩ = some ((S.getD q noDG).cell j) from by
              obtain ⟨b1, o1, e1, _, hc⟩ := (Sl.below HN4.out hb) (by omega)
              obtain ⟨rfl, rfl⟩ : b8 = b1 ∧ 0 = o1 := by simpa using e1
              exact hc q j hq hj)
            have hxlt : (i : Int) < (n : Int) := by omega
            clear x0 x1
            go_upto_region 11 with fail
            by_cases hck : c8 = k
            · subst hck
              obtain rfl : m = c8 := by omega
              go_region_law (first
                  | (refine step_append_rowG (by rfl) _ _ 37 (by rfl) w4.heap.size 29 i0 _ 7 56 Try.underlying37 hi0 hz0 hz1 hz2 (by rfl) (by decide) (.slice (some ⟨w4.heap.size, 0, none⟩) 0 0) 0 [] (by rfl) ?_ b8 0 m m (fun q j => (S.getD q noDG).cell j) (by rfl) ?_ (fun q j => cell_one _ j) (by omega) (by decide) ?_ ?_; go_must (focus first | exact ownsRow_blk (Blk.drew (blk_newN w4 _ _ rfl)) (Nat.le_refl _) | exact ownsRow_blk (Blk.drew ((blk_newN w4 _ _ rfl).alloc _)) (Nat.le_refl _)); go_loud (focus exact fun q j hq hj => HCN.out _ (by repeat' (first | (with_reducible exact Below.refl _ _) | (with_reducible assumption) | (with_reducible refine Below.alloc ?_ ?_ _) | (with_reducible refine Below.drew ?_) | (with_reducible refine Below.setCell ?_ ?_ _) | (with_reducible refine Below.stepB (by assumption) ?_ ?_) | go_size)) q j (by omega) hj); go_loud (focus first | omega | (simp; omega) | (simp; done)); intro v5 w5 hO5 hb5 hk5; rw [Nat.zero_add, List.nil_append] at hO5; obtain ⟨A5, c5, rfl⟩ := ownsRow_form hO5; have hB45 : Below w4.heap.size w4 w5 := (by repeat' (first | (with_reducible exact Below.refl _ _) | (with_reducible assumption) | (with_reducible refine Below.alloc ?_ ?_ _) | (with_reducible refine Below.drew ?_) | (with_reducible refine Below.setCell ?_ ?_ _) | (with_reducible refine Below.stepB (by assumption) ?_ ?_) | go_size)); have r0 := (hB45.cell (p := ⟨b, _, none⟩) hbl4).trans e0; have r1 := (hB45.cell (p := ⟨b, _, none⟩) hbl4).trans e1; have r2 := (hB45.cell (p := ⟨b, _, none⟩) hbl4).trans e2; have r3 := (hB45.cell (p := ⟨b, _, none⟩) hbl4).trans e3; have r4 := (hB45.cell (p := ⟨b, _, none⟩) hbl4).trans e4; have r5 := (hB45.cell (p := ⟨b, _, none⟩) hbl4).trans e5; have r6 := (hB45.cell (p := ⟨b, _, none⟩) hbl4).trans e6; clear hB45; have hz5 := hb5.size; (try simp at hz5); (try (have hBf5 : Blk w5 (w4.heap.size + 1) 29 (f i).arr := (hk5 _ (by first | (simp; done) | (simp; omega)) (by simp [Value.ownBlock])).trans (show Blk ((w4.alloc (.cells #[] 29)).alloc (.cells (f i).arr 29)).drew (w4.heap.size + 1) 29 (f i).arr from Blk.drew (blk_newN (w4.alloc (.cells #[] 29)) _ _ (by simp))))); clear hk5)
                  | (refine step_append_rowG (by rfl) _ _ 37 (by rfl) w4.heap.size 29 i0 _ 7 56 Try.underlying37 hi0 hz0 hz1 hz2 (by rfl) (by decide) (.slice (some ⟨w4.heap.size + 1, 0, none⟩) 0 0) 0 [] (by rfl) ?_ b8 0 m m (fun q j => (S.getD q noDG).cell j) (by rfl) ?_ (fun q j => cell_one _ j) (by omega) (by decide) ?_ ?_; go_must (focus exact ownsRow_blk (Blk.drew (blk_newN _ _ _ (by simp))) (by omega)); go_loud (focus exact fun q j hq hj => HCN.out _ (by repeat' (first | (with_reducible exact Below.refl _ _) | (with_reducible assumption) | (with_reducible refine Below.alloc ?_ ?_ _) | (with_reducible refine Below.drew ?_) | (with_reducible refine Below.setCell ?_ ?_ _) | (with_reducible refine Below.stepB (by assumption) ?_ ?_) | go_size)) q j (by omega) hj); go_loud (focus first | omega | (simp; omega) | (simp; done)); intro v5 w5 hO5 hb5 hk5; rw [Nat.zero_add, List.nil_append] at hO5; obtain ⟨A5, c5, rfl⟩ := ownsRow_form hO5; have hB45 : Below w4.heap.size w4 w5 := (by repeat' (first | (with_reducible exact Below.refl _ _) | (with_reducible assumption) | (with_reducible refine Below.alloc ?_ ?_ _) | (with_reducible refine Below.drew ?_) | (with_reducible refine Below.setCell ?_ ?_ _) | (with_reducible refine Below.stepB (by assumption) ?_ ?_) | go_size)); have r0 := (hB45.cell (p := ⟨b, _, none⟩) hbl4).trans e0; have r1 := (hB45.cell (p := ⟨b, _, none⟩) hbl4).trans e1; have r2 := (hB45.cell (p := ⟨b, _, none⟩) hbl4).trans e2; have r3 := (hB45.cell (p := ⟨b, _, none⟩) hbl4).trans e3; have r4 := (hB45.cell (p := ⟨b, _, none⟩) hbl4).trans e4; have r5 := (hB45.cell (p := ⟨b, _, none⟩) hbl4).trans e5; have r6 := (hB45.cell (p := ⟨b, _, none⟩) hbl4).trans e6; clear hB45; have hz5 := hb5.size; (try simp at hz5); (try (have hBf5 : Blk w5 w4.heap.size 29 (f i).arr := (hk5 _ (by first | (simp; done) | (simp; omega)) (by simp [Value.ownBlock])).trans (show Blk ((w4.alloc (.cells (f i).arr 29)).alloc (.cells #[] 29)).drew w4.heap.size 29 (f i).arr from Blk.drew ((blk_newN w4 _ _ rfl).alloc _)))); clear hk5)
                  | (refine step_append_rowG (by rfl) _ _ 37 (by rfl) w4.heap.size 29 i0 _ 7 56 Try.underlying37 hi0 hz0 hz1 hz2 (by rfl) (by decide) _ m (flatG 7 (fun q j => (S.getD q noDG).cell j) m) (by rfl) ?_ _ 0 1 1 (fun _ j => (f i).cell j) (by rfl) ?_ (fun _ j => cell_one _ j) (by omega) (by decide) ?_ ?_; go_loud (focus first | exact hO5 | exact ownsRow_below hO5 (Below.alloc (Below.refl _ _) (Nat.le_refl _) _)); go_loud (focus first | exact dg_at0 (s := f i) hBf5 | exact dg_at0 (s := f i) (blk_newN w5 _ _ rfl)); go_loud (focus first | omega | (simp; omega) | (simp; done)); intro v6 w6 hO6 hb6 hk6; clear hk6; obtain ⟨A6, c6, rfl⟩ := ownsRow_form hO6; have hz6 := hb6.size; (try simp at hz6))
                  | (refine step_append_rowG (by rfl) _ _ 37 (by rfl) w4.heap.size 29 i0 _ 7 56 Try.underlying37 hi0 hz0 hz1 hz2 (by rfl) (by decide) _ (m + 1) (flatG 7 (fun q j => (S.getD q noDG).cell j) m ++ flatG 7 (fun _ j => (f i).cell j) 1) (by rfl) ?_ b8 0 0 0 (fun q j => (S.getD (m + q) noDG).cell j) (by rfl) ?_ (fun q j => cell_one _ j) (by omega) (by decide) ?_ ?_; go_loud (focus exact hO6); go_loud (focus exact fun q j hq _ => absurd hq (Nat.not_lt_zero _)); go_loud (focus omega); intro v7 w7 hO7 hb7 hk7; clear hk7; obtain ⟨A7, c7, rfl⟩ := ownsRow_form hO7; have hz7 := hb7.size))
              all_goals
                have HF := Lib.hid (own_flat3 (m := m) (p := m) (S := S) (x := f i) (c := c7) (A := A7) (by rw [Nat.sub_self]; exact hO7) HM.out (Nat.le_refl _))
                have HB7 := Lib.hid (show Below w2.heap.size w2 w7 from (hBW3.out.trans (hbq.mono (by omega))).trans (show Below w2.heap.size wq w7 from by repeat' (first | (with_reducible exact Below.refl _ _) | (with_reducible assumption) | (with_reducible refine Below.alloc ?_ ?_ _) | (with_reducible refine Below.drew ?_) | (with_reducible refine Below.setCell ?_ ?_ _) | (with_reducible refine Below.stepB (by assumption) ?_ ?_) | go_size)))
                obtain ⟨b7, hb7e⟩ := HF.out.2.form (by omega)
                subst hb7e
                have hb7l := (HF.out.2.free (by omega)).1
                have HLL := Lib.hid (show (layAt S m (f i)).length = m + 1 by rw [layAt_len _ _ _ (by rw [HM.out]; exact Nat.le_refl _), HM.out])
                clear hO7 hb7
                go_wp2
                go_roundw
                case rel => exact ⟨i + 1, b7, c7, by omega, by go_num, by rw [HNEW.out, HLL.out], by rw [HNEW.out, HLL.out]; exact HF.out.1, hb7l, by rw [HNEW.out, HLL.out]; exact HF.out.2.sl, HB7.out⟩
                case measure => simp [intOf]; omega
            · go_region_law (first
                  | (refine step_append_rowG (by rfl) _ _ 37 (by rfl) w4.heap.size 29 i0 _ 7 56 Try.underlying37 hi0 hz0 hz1 hz2 (by rfl) (by decide) (.slice (some ⟨w4.heap.size, 0, none⟩) 0 0) 0 [] (by rfl) ?_ b8 0 k c8 (fun q j => (S.getD q noDG).cell j) (by rfl) ?_ (fun q j => cell_one _ j) (by omega) (by decide) ?_ ?_; go_must (focus first | exact ownsRow_blk (Blk.drew (blk_newN w4 _ _ rfl)) (Nat.le_refl _) | exact ownsRow_blk (Blk.drew ((blk_newN w4 _ _ rfl).alloc _)) (Nat.le_refl _)); go_loud (focus exact fun q j hq hj => HCN.out _ (by repeat' (first | (with_reducible exact Below.refl _ _) | (with_reducible assumption) | (with_reducible refine Below.alloc ?_ ?_ _) | (with_reducible refine Below.drew ?_) | (with_reducible refine Below.setCell ?_ ?_ _) | (with_reducible refine Below.stepB (by assumption) ?_ ?_) | go_size)) q j (by omega) hj); go_loud (focus first | omega | (simp; omega) | (simp; done)); intro v5 w5 hO5 hb5 hk5; rw [Nat.zero_add, List.nil_append] at hO5; obtain ⟨A5, c5, rfl⟩ := ownsRow_form hO5; have hB45 : Below w4.heap.size w4 w5 := (by repeat' (first | (with_reducible exact Below.refl _ _) | (with_reducible assumption) | (with_reducible refine Below.alloc ?_ ?_ _) | (with_reducible refine Below.drew ?_) | (with_reducible refine Below.setCell ?_ ?_ _) | (with_reducible refine Below.stepB (by assumption) ?_ ?_) | go_size)); have r0 := (hB45.cell (p := ⟨b, _, none⟩) hbl4).trans e0; have r1 := (hB45.cell (p := ⟨b, _, none⟩) hbl4).trans e1; have r2 := (hB45.cell (p := ⟨b, _, none⟩) hbl4).trans e2; have r3 := (hB45.cell (p := ⟨b, _, none⟩) hbl4).trans e3; have r4 := (hB45.cell (p := ⟨b, _, none⟩) hbl4).trans e4; have r5 := (hB45.cell (p := ⟨b, _, none⟩) hbl4).trans e5; have r6 := (hB45.cell (p := ⟨b, _, none⟩) hbl4).trans e6; clear hB45; have hz5 := hb5.size; (try simp at hz5); (try (have hBf5 : Blk w5 (w4.heap.size + 1) 29 (f i).arr := (hk5 _ (by first | (simp; done) | (simp; omega)) (by simp [Value.ownBlock])).trans (show Blk ((w4.alloc (.cells #[] 29)).alloc (.cells (f i).arr 29)).drew (w4.heap.size + 1) 29 (f i).arr from Blk.drew (blk_newN (w4.alloc (.cells #[] 29)) _ _ (by simp))))); clear hk5)
                  | (refine step_append_rowG (by rfl) _ _ 37 (by rfl) w4.heap.size 29 i0 _ 7 56 Try.underlying37 hi0 hz0 hz1 hz2 (by rfl) (by decide) (.slice (some ⟨w4.heap.size + 1, 0, none⟩) 0 0) 0 [] (by rfl) ?_ b8 0 k c8 (fun q j => (S.getD q noDG).cell j) (by rfl) ?_ (fun q j => cell_one _ j) (by omega) (by decide) ?_ ?_; go_must (focus exact ownsRow_blk (Blk.drew (blk_newN _ _ _ (by simp))) (by omega)); go_loud (focus exact fun q j hq hj => HCN.out _ (by repeat' (first | (with_reducible exact Below.refl _ _) | (with_reducible assumption) | (with_reducible refine Below.alloc ?_ ?_ _) | (with_reducible refine Below.drew ?_) | (with_reducible refine Below.setCell ?_ ?_ _) | (with_reducible refine Below.stepB (by assumption) ?_ ?_) | go_size)) q j (by omega) hj); go_loud (focus first | omega | (simp; omega) | (simp; done)); intro v5 w5 hO5 hb5 hk5; rw [Nat.zero_add, List.nil_append] at hO5; obtain ⟨A5, c5, rfl⟩ := ownsRow_form hO5; have hB45 : Below w4.heap.size w4 w5 := (by repeat' (first | (with_reducible exact Below.refl _ _) | (with_reducible assumption) | (with_reducible refine Below.alloc ?_ ?_ _) | (with_reducible refine Below.drew ?_) | (with_reducible refine Below.setCell ?_ ?_ _) | (with_reducible refine Below.stepB (by assumption) ?_ ?_) | go_size)); have r0 := (hB45.cell (p := ⟨b, _, none⟩) hbl4).trans e0; have r1 := (hB45.cell (p := ⟨b, _, none⟩) hbl4).trans e1; have r2 := (hB45.cell (p := ⟨b, _, none⟩) hbl4).trans e2; have r3 := (hB45.cell (p := ⟨b, _, none⟩) hbl4).trans e3; have r4 := (hB45.cell (p := ⟨b, _, none⟩) hbl4).trans e4; have r5 := (hB45.cell (p := ⟨b, _, none⟩) hbl4).trans e5; have r6 := (hB45.cell (p := ⟨b, _, none⟩) hbl4).trans e6; clear hB45; have hz5 := hb5.size; (try simp at hz5); (try (have hBf5 : Blk w5 w4.heap.size 29 (f i).arr := (hk5 _ (by first | (simp; done) | (simp; omega)) (by simp [Value.ownBlock])).trans (show Blk ((w4.alloc (.cells (f i).arr 29)).alloc (.cells #[] 29)).drew w4.heap.size 29 (f i).arr from Blk.drew ((blk_newN w4 _ _ rfl).alloc _)))); clear hk5)
                  | (refine step_append_rowG (by rfl) _ _ 37 (by rfl) w4.heap.size 29 i0 _ 7 56 Try.underlying37 hi0 hz0 hz1 hz2 (by rfl) (by decide) _ k (flatG 7 (fun q j => (S.getD q noDG).cell j) k) (by rfl) ?_ _ 0 1 1 (fun _ j => (f i).cell j) (by rfl) ?_ (fun _ j => cell_one _ j) (by omega) (by decide) ?_ ?_; go_loud (focus first | exact hO5 | exact ownsRow_below hO5 (Below.alloc (Below.refl _ _) (Nat.le_refl _) _)); go_loud (focus first | exact dg_at0 (s := f i) hBf5 | exact dg_at0 (s := f i) (blk_newN w5 _ _ rfl)); go_loud (focus first | omega | (simp; omega) | (simp; done)); intro v6 w6 hO6 hb6 hk6; clear hk6; obtain ⟨A6, c6, rfl⟩ := ownsRow_form hO6; have hz6 := hb6.size; (try simp at hz6))
                  | (refine step_append_rowG (by rfl) _ _ 37 (by rfl) w4.heap.size 29 i0 _ 7 56 Try.underlying37 hi0 hz0 hz1 hz2 (by rfl) (by decide) _ (k + 1) (flatG 7 (fun q j => (S.getD q noDG).cell j) k ++ flatG 7 (fun _ j => (f i).cell j) 1) (by rfl) ?_ b8 (k * 7) (m - k) (c8 - k) (fun q j => (S.getD (k + q) noDG).cell j) (by rfl) ?_ (fun q j => cell_one _ j) (by omega) (by decide) ?_ ?_; go_loud (focus exact hO6); go_loud (focus (intro q j hq hj; have h := HCN.out _ (show Below w4.heap.size w4 w6 from by repeat' (first | (with_reducible exact Below.refl _ _) | (with_reducible assumption) | (with_reducible refine Below.alloc ?_ ?_ _) | (with_reducible refine Below.drew ?_) | (with_reducible refine Below.setCell ?_ ?_ _) | (with_reducible refine Below.stepB (by assumption) ?_ ?_) | go_size)) (k + q) j (by omega) hj; rwa [show 0 + (k + q) * 7 + j = k * 7 + q * 7 + j by omega] at h)); go_loud (focus omega); intro v7 w7 hO7 hb7 hk7; clear hk7; obtain ⟨A7, c7, rfl⟩ := ownsRow_form hO7; have hz7 := hb7.size))
              all_goals
                have HF := Lib.hid (own_flat3 hO7 HM.out hk)
                have HB7 := Lib.hid (show Below w2.heap.size w2 w7 from (hBW3.out.trans (hbq.mono (by omega))).trans (show Below w2.heap.size wq w7 from by repeat' (first | (with_reducible exact Below.refl _ _) | (with_reducible assumption) | (with_reducible refine Below.alloc ?_ ?_ _) | (with_reducible refine Below.drew ?_) | (with_reducible refine Below.setCell ?_ ?_ _) | (with_reducible refine Below.stepB (by assumption) ?_ ?_) | go_size)))
                obtain ⟨b7, hb7e⟩ := HF.out.2.form (by omega)
                subst hb7e
                have hb7l := (HF.out.2.free (by omega)).1
                have HLL := Lib.hid (show (layAt S k (f i)).length = m + 1 by rw [layAt_len _ _ _ (by rw [HM.out]; exact hk), HM.out])
                clear hO7 hb7
                go_wp2
                go_roundw
                case rel => exact ⟨i + 1, b7, c7, by omega, by go_num, by rw [HNEW.out, HLL.out, show k + 1 + (m - k) = m + 1 by omega], by rw [HNEW.out, HLL.out]; exact HF.out.1, hb7l, by rw [HNEW.out, HLL.out]; exact HF.out.2.sl, HB7.out⟩
                case measure => simp [intOf]; omega
          · obtain ⟨k', hk'⟩ : ∃ k', k = k' + 1 := ⟨k - 1, by omega⟩
            have hk1 : (k : Int) - 1 = (k' : Int) := by omega
            have hp1 : (0 : Int) ≤ (k' : Int) := by omega
            have hp2 : (k' : Int) < (m : Int) := by omega
            have hg0 : decide ((k : Int) > 0) = true := decide_eq_true (by omega)
            obtain ⟨bb, oo, hbo, _, _, d0, d1, d2, d3, d4, d5, d6, -⟩ := HN3.out.at hbq (show k' < m by omega)
            obtain ⟨rfl, rfl⟩ : b8 = bb ∧ 0 = oo := by simpa using hbo
            simp only [Nat.zero_add] at d0 d1 d2 d3 d4 d5 d6
            obtain ⟨bb, oo, hbo2, _, _, c0, c1, c2, c3, c4, c5, c6, -⟩ := HS.out.at (show Below w.heap.size w wq from HWR.out.trans (HBRQ.out.mono (by omega))) hlt
            obtain ⟨rfl, rfl⟩ : b = bb ∧ off = oo := by simpa using hbo2
            clear hbo hbo2
            have HSK := Lib.hid (HQ1.out k' (by rw [HM.out]; omega))
            have HSI := Lib.hid (HSQ.out i hlt)
            obtain ⟨D, hD⟩ : ∃ D, S.getD k' noDG = D := ⟨_, rfl⟩
            have HLT0 := Lib.hid (show ltN x y (f i) (S.getD k' noDG) = decide (sqD (f i).x (f i).y x y < sqD D.x D.y x y) by rw [hD]; rfl)
            rw [hD] at d0 d1 d2 d3 d4 d5 d6 HSK
            clear hD
            obtain ⟨s1, hs1⟩ : ∃ s1, sqD D.x D.y x y = s1 := ⟨_, rfl⟩
            obtain ⟨s2, hs2⟩ : ∃ s2, sqD (f i).x (f i).y x y = s2 := ⟨_, rfl⟩
            rw [hs1] at HSK HLT0
            rw [hs2] at HSI HLT0
            clear hs1 hs2
            by_cases hgt : s2 < s1
            · have HLT : Hid (ltN x y (f i) (S.getD k' noDG) = true) := by show _ = _; rw [HLT0.out]; exact decide_eq_true hgt
              have HK := Lib.hid hk'
              clear hk'
              go_wp2
              refine wp_region_later (by kernel_rfl) (by kernel_rfl) (fun hlx => ?_)
              repeat (go_big_quiet_step ((first | (go_at_call 69; with_reducible exact Later.call (HSK.out _)) | (go_at_call 69; with_reducible exact Later.call (HSI.out _)))))
              refine wpQuiet_nil ?_
              clear hlx
              intro w4 hbw4
              obtain ⟨hzw4, hcw4, hfw4⟩ := bfacts hbw4; (try simp at hzw4 hcw4 hfw4); (try (have : w.heap.size < w4.heap.size := by omega)); (try (have : w.heap.size + 1 < w4.heap.size := by omega)); (try (have : w.heap.size + 1 + 1 < w4.heap.size := by omega)); (try (have : w.heap.size + 1 + 1 + 1 < w4.heap.size := by omega))
              go_wp2
              go_roundw
              case rel => exact ⟨k', by have := HK.out; omega, by go_num, fun q h1 h2 => by
                rcases Nat.eq_or_lt_of_le h1 with h3 | h3
                · subst h3; exact HLT.out
                · exact hAB q (by have := HK.out; omega) h2, by repeat' (first | (with_reducible exact Below.refl _ _) | (with_reducible assumption) | (with_reducible refine Below.alloc ?_ ?_ _) | (with_reducible refine Below.drew ?_) | (with_reducible refine Below.setCell ?_ ?_ _) | (with_reducible refine Below.stepB (by assumption) ?_ ?_) | go_size)⟩
              case measure => have := HK.out; simp [intOf]; omega
            · have HSTOP : Hid (k = 0 ∨ ltN x y (f i) (S.getD (k - 1) noDG) = false) := .inr (by rw [hk', Nat.add_sub_cancel, HLT0.out]; exact decide_eq_false hgt)
              have hgb : decide (s2 < s1) = false := decide_eq_false hgt
              clear hk'
              go_wp2
              refine wp_region_later (by kernel_rfl) (by kernel_rfl) (fun hlx => ?_)
              repeat (go_big_quiet_step ((first | (go_at_call 69; with_reducible exact Later.call (HSK.out _)) | (go_at_call 69; with_reducible exact Later.call (HSI.out _)))))
              refine wpQuiet_nil ?_
              clear hlx
              intro w4 hbw4
              obtain ⟨hzw4, hcw4, hfw4⟩ := bfacts hbw4; (try simp at hzw4 hcw4 hfw4); (try (have : w.heap.size < w4.heap.size := by omega)); (try (have : w.heap.size + 1 < w4.heap.size := by omega)); (try (have : w.heap.size + 1 + 1 < w4.heap.size := by omega)); (try (have : w.heap.size + 1 + 1 + 1 < w4.heap.size := by omega))
              clear c0 c1 c2 c3 c4 c5 c6 d0 d1 d2 d3 d4 d5 d6 hk1 hp1 hp2 hg0
              have HNEW := Lib.hid (hHIT.out k (by rw [HM.out]; exact hk) (by rw [HM.out]; exact hAB) HSTOP.out)
              have lb4 : b < w4.heap.size := by omega
              have l84 : b8 < w4.heap.size := by omega
              obtain ⟨bb, oo, hbo, _, hbl4, e0, e1, e2, e3, e4, e5, e6, -⟩ := HS.out.at (show Below w.heap.size w w4 from (HWR.out.trans (HBRQ.out.mono (by omega))).trans (hbw4.mono (by omega))) hlt
              obtain ⟨rfl, rfl⟩ : b = bb ∧ off = oo := by simpa using hbo
              have HN4 := Lib.hid (show SlDG w4 (some ⟨b8, 0, none⟩) m (fun q => S.getD q noDG) from HN3.out.below (by repeat' (first | (with_reducible exact Below.refl _ _) | (with_reducible assumption) | (with_reducible refine Below.alloc ?_ ?_ _) | (with_reducible refine Below.drew ?_) | (with_reducible refine Below.setCell ?_ ?_ _) | (with_reducible refine Below.stepB (by assumption) ?_ ?_) | go_size)))
              clear hbo hcw4 hfw4
              have hkc : k ≤ c8 := by omega
              have hmc : m ≤ c8 := hc8
              have HCN := Lib.hid (fun (W : World) (hb : Below w4.heap.size w4 W) (q j : Nat) (hq : q < m) (hj : j < 7) => show W.cell? ⟨b8, 0 + q * 7 + j, none⟩ = some ((S.getD q noDG).cell j) from by
                obtain ⟨b1, o1, e1, _, hc⟩ := (Sl.below HN4.out hb) (by omega)
                obtain ⟨rfl, rfl⟩ : b8 = b1 ∧ 0 = o1 := by simpa using e1
                exact hc q j hq hj)
              have hxlt : (i : Int) < (n : Int) := by omega
              clear x0 x1
              go_upto_region 11 with fail
              by_cases hck : c8 = k
              · subst hck
                obtain rfl : m = c8 := by omega
                go_region_law (first
                    | (refine step_append_rowG (by rfl) _ _ 37 (by rfl) w4.heap.size 29 i0 _ 7 56 Try.underlying37 hi0 hz0 hz1 hz2 (by rfl) (by decide) (.slice (some ⟨w4.heap.size, 0, none⟩) 0 0) 0 [] (by rfl) ?_ b8 0 m m (fun q j => (S.getD q noDG).cell j) (by rfl) ?_ (fun q j => cell_one _ j) (by omega) (by decide) ?_ ?_; go_must (focus first | exact ownsRow_blk (Blk.drew (blk_newN w4 _ _ rfl)) (Nat.le_refl _) | exact ownsRow_blk (Blk.drew ((blk_newN w4 _ _ rfl).alloc _)) (Nat.le_refl _)); go_loud (focus exact fun q j hq hj => HCN.out _ (by repeat' (first | (with_reducible exact Below.refl _ _) | (with_reducible assumption) | (with_reducible refine Below.alloc ?_ ?_ _) | (with_reducible refine Below.drew ?_) | (with_reducible refine Below.setCell ?_ ?_ _) | (with_reducible refine Below.stepB (by assumption) ?_ ?_) | go_size)) q j (by omega) hj); go_loud (focus first | omega | (simp; omega) | (simp; done)); intro v5 w5 hO5 hb5 hk5; rw [Nat.zero_add, List.nil_append] at hO5; obtain ⟨A5, c5, rfl⟩ := ownsRow_form hO5; have hB45 : Below w4.heap.size w4 w5 := (by repeat' (first | (with_reducible exact Below.refl _ _) | (with_reducible assumption) | (with_reducible refine Below.alloc ?_ ?_ _) | (with_reducible refine Below.drew ?_) | (with_reducible refine Below.setCell ?_ ?_ _) | (with_reducible refine Below.stepB (by assumption) ?_ ?_) | go_size)); have r0 := (hB45.cell (p := ⟨b, _, none⟩) hbl4).trans e0; have r1 := (hB45.cell (p := ⟨b, _, none⟩) hbl4).trans e1; have r2 := (hB45.cell (p := ⟨b, _, none⟩) hbl4).trans e2; have r3 := (hB45.cell (p := ⟨b, _, none⟩) hbl4).trans e3; have r4 := (hB45.cell (p := ⟨b, _, none⟩) hbl4).trans e4; have r5 := (hB45.cell (p := ⟨b, _, none⟩) hbl4).trans e5; have r6 := (hB45.cell (p := ⟨b, _, none⟩) hbl4).trans e6; clear hB45; have hz5 := hb5.size; (try simp at hz5); (try (have hBf5 : Blk w5 (w4.heap.size + 1) 29 (f i).arr := (hk5 _ (by first | (simp; done) | (simp; omega)) (by simp [Value.ownBlock])).trans (show Blk ((w4.alloc (.cells #[] 29)).alloc (.cells (f i).arr 29)).drew (w4.heap.size + 1) 29 (f i).arr from Blk.drew (blk_newN (w4.alloc (.cells #[] 29)) _ _ (by simp))))); clear hk5)
                    | (refine step_append_rowG (by rfl) _ _ 37 (by rfl) w4.heap.size 29 i0 _ 7 56 Try.underlying37 hi0 hz0 hz1 hz2 (by rfl) (by decide) (.slice (some ⟨w4.heap.size + 1, 0, none⟩) 0 0) 0 [] (by rfl) ?_ b8 0 m m (fun q j => (S.getD q noDG).cell j) (by rfl) ?_ (fun q j => cell_one _ j) (by omega) (by decide) ?_ ?_; go_must (focus exact ownsRow_blk (Blk.drew (blk_newN _ _ _ (by simp))) (by omega)); go_loud (focus exact fun q j hq hj => HCN.out _ (by repeat' (first | (with_reducible exact Below.refl _ _) | (with_reducible assumption) | (with_reducible refine Below.alloc ?_ ?_ _) | (with_reducible refine Below.drew ?_) | (with_reducible refine Below.setCell ?_ ?_ _) | (with_reducible refine Below.stepB (by assumption) ?_ ?_) | go_size)) q j (by omega) hj); go_loud (focus first | omega | (simp; omega) | (simp; done)); intro v5 w5 hO5 hb5 hk5; rw [Nat.zero_add, List.nil_append] at hO5; obtain ⟨A5, c5, rfl⟩ := ownsRow_form hO5; have hB45 : Below w4.heap.size w4 w5 := (by repeat' (first | (with_reducible exact Below.refl _ _) | (with_reducible assumption) | (with_reducible refine Below.alloc ?_ ?_ _) | (with_reducible refine Below.drew ?_) | (with_reducible refine Below.setCell ?_ ?_ _) | (with_reducible refine Below.stepB (by assumption) ?_ ?_) | go_size)); have r0 := (hB45.cell (p := ⟨b, _, none⟩) hbl4).trans e0; have r1 := (hB45.cell (p := ⟨b, _, none⟩) hbl4).trans e1; have r2 := (hB45.cell (p := ⟨b, _, none⟩) hbl4).trans e2; have r3 := (hB45.cell (p := ⟨b, _, none⟩) hbl4).trans e3; have r4 := (hB45.cell (p := ⟨b, _, none⟩) hbl4).trans e4; have r5 := (hB45.cell (p := ⟨b, _, none⟩) hbl4).trans e5; have r6 := (hB45.cell (p := ⟨b, _, none⟩) hbl4).trans e6; clear hB45; have hz5 := hb5.size; (try simp at hz5); (try (have hBf5 : Blk w5 w4.heap.size 29 (f i).arr := (hk5 _ (by first | (simp; done) | (simp; omega)) (by simp [Value.ownBlock])).trans (show Blk ((w4.alloc (.cells (f i).arr 29)).alloc (.cells #[] 29)).drew w4.heap.size 29 (f i).arr from Blk.drew ((blk_newN w4 _ _ rfl).alloc _)))); clear hk5)
                    | (refine step_append_rowG (by rfl) _ _ 37 (by rfl) w4.heap.size 29 i0 _ 7 56 Try.underlying37 hi0 hz0 hz1 hz2 (by rfl) (by decide) _ m (flatG 7 (fun q j => (S.getD q noDG).cell j) m) (by rfl) ?_ _ 0 1 1 (fun _ j => (f i).cell j) (by rfl) ?_ (fun _ j => cell_one _ j) (by omega) (by decide) ?_ ?_; go_loud (focus first | exact hO5 | exact ownsRow_below hO5 (Below.alloc (Below.refl _ _) (Nat.le_refl _) _)); go_loud (focus first | exact dg_at0 (s := f i) hBf5 | exact dg_at0 (s := f i) (blk_newN w5 _ _ rfl)); go_loud (focus first | omega | (simp; omega) | (simp; done)); intro v6 w6 hO6 hb6 hk6; clear hk6; obtain ⟨A6, c6, rfl⟩ := ownsRow_form hO6; have hz6 := hb6.size; (try simp at hz6))
                    | (refine step_append_rowG (by rfl) _ _ 37 (by rfl) w4.heap.size 29 i0 _ 7 56 Try.underlying37 hi0 hz0 hz1 hz2 (by rfl) (by decide) _ (m + 1) (flatG 7 (fun q j => (S.getD q noDG).cell j) m ++ flatG 7 (fun _ j => (f i).cell j) 1) (by rfl) ?_ b8 0 0 0 (fun q j => (S.getD (m + q) noDG).cell j) (by rfl) ?_ (fun q j => cell_one _ j) (by omega) (by decide) ?_ ?_; go_loud (focus exact hO6); go_loud (focus exact fun q j hq _ => absurd hq (Nat.not_lt_zero _)); go_loud (focus omega); intro v7 w7 hO7 hb7 hk7; clear hk7; obtain ⟨A7, c7, rfl⟩ := ownsRow_form hO7; have hz7 := hb7.size))
                all_goals
                  have HF := Lib.hid (own_flat3 (m := m) (p := m) (S := S) (x := f i) (c := c7) (A := A7) (by rw [Nat.sub_self]; exact hO7) HM.out (Nat.le_refl _))
                  have HB7 := Lib.hid (show Below w2.heap.size w2 w7 from (hBW3.out.trans (hbq.mono (by omega))).trans (show Below w2.heap.size wq w7 from by repeat' (first | (with_reducible exact Below.refl _ _) | (with_reducible assumption) | (with_reducible refine Below.alloc ?_ ?_ _) | (with_reducible refine Below.drew ?_) | (with_reducible refine Below.setCell ?_ ?_ _) | (with_reducible refine Below.stepB (by assumption) ?_ ?_) | go_size)))
                  obtain ⟨b7, hb7e⟩ := HF.out.2.form (by omega)
                  subst hb7e
                  have hb7l := (HF.out.2.free (by omega)).1
                  have HLL := Lib.hid (show (layAt S m (f i)).length = m + 1 by rw [layAt_len _ _ _ (by rw [HM.out]; exact Nat.le_refl _), HM.out])
                  clear hO7 hb7
                  go_wp2
                  go_roundw
                  case rel => exact ⟨i + 1, b7, c7, by omega, by go_num, by rw [HNEW.out, HLL.out], by rw [HNEW.out, HLL.out]; exact HF.out.1, hb7l, by rw [HNEW.out, HLL.out]; exact HF.out.2.sl, HB7.out⟩
                  case measure => simp [intOf]; omega
              · go_region_law (first
                    | (refine step_append_rowG (by rfl) _ _ 37 (by rfl) w4.heap.size 29 i0 _ 7 56 Try.underlying37 hi0 hz0 hz1 hz2 (by rfl) (by decide) (.slice (some ⟨w4.heap.size, 0, none⟩) 0 0) 0 [] (by rfl) ?_ b8 0 k c8 (fun q j => (S.getD q noDG).cell j) (by rfl) ?_ (fun q j => cell_one _ j) (by omega) (by decide) ?_ ?_; go_must (focus first | exact ownsRow_blk (Blk.drew (blk_newN w4 _ _ rfl)) (Nat.le_refl _) | exact ownsRow_blk (Blk.drew ((blk_newN w4 _ _ rfl).alloc _)) (Nat.le_refl _)); go_loud (focus exact fun q j hq hj => HCN.out _ (by repeat' (first | (with_reducible exact Below.refl _ _) | (with_reducible assumption) | (with_reducible refine Below.alloc ?_ ?_ _) | (with_reducible refine Below.drew ?_) | (with_reducible refine Below.setCell ?_ ?_ _) | (with_reducible refine Below.stepB (by assumption) ?_ ?_) | go_size)) q j (by omega) hj); go_loud (focus first | omega | (simp; omega) | (simp; done)); intro v5 w5 hO5 hb5 hk5; rw [Nat.zero_add, List.nil_append] at hO5; obtain ⟨A5, c5, rfl⟩ := ownsRow_form hO5; have hB45 : Below w4.heap.size w4 w5 := (by repeat' (first | (with_reducible exact Below.refl _ _) | (with_reducible assumption) | (with_reducible refine Below.alloc ?_ ?_ _) | (with_reducible refine Below.drew ?_) | (with_reducible refine Below.setCell ?_ ?_ _) | (with_reducible refine Below.stepB (by assumption) ?_ ?_) | go_size)); have r0 := (hB45.cell (p := ⟨b, _, none⟩) hbl4).trans e0; have r1 := (hB45.cell (p := ⟨b, _, none⟩) hbl4).trans e1; have r2 := (hB45.cell (p := ⟨b, _, none⟩) hbl4).trans e2; have r3 := (hB45.cell (p := ⟨b, _, none⟩) hbl4).trans e3; have r4 := (hB45.cell (p := ⟨b, _, none⟩) hbl4).trans e4; have r5 := (hB45.cell (p := ⟨b, _, none⟩) hbl4).trans e5; have r6 := (hB45.cell (p := ⟨b, _, none⟩) hbl4).trans e6; clear hB45; have hz5 := hb5.size; (try simp at hz5); (try (have hBf5 : Blk w5 (w4.heap.size + 1) 29 (f i).arr := (hk5 _ (by first | (simp; done) | (simp; omega)) (by simp [Value.ownBlock])).trans (show Blk ((w4.alloc (.cells #[] 29)).alloc (.cells (f i).arr 29)).drew (w4.heap.size + 1) 29 (f i).arr from Blk.drew (blk_newN (w4.alloc (.cells #[] 29)) _ _ (by simp))))); clear hk5)
                    | (refine step_append_rowG (by rfl) _ _ 37 (by rfl) w4.heap.size 29 i0 _ 7 56 Try.underlying37 hi0 hz0 hz1 hz2 (by rfl) (by decide) (.slice (some ⟨w4.heap.size + 1, 0, none⟩) 0 0) 0 [] (by rfl) ?_ b8 0 k c8 (fun q j => (S.getD q noDG).cell j) (by rfl) ?_ (fun q j => cell_one _ j) (by omega) (by decide) ?_ ?_; go_must (focus exact ownsRow_blk (Blk.drew (blk_newN _ _ _ (by simp))) (by omega)); go_loud (focus exact fun q j hq hj => HCN.out _ (by repeat' (first | (with_reducible exact Below.refl _ _) | (with_reducible assumption) | (with_reducible refine Below.alloc ?_ ?_ _) | (with_reducible refine Below.drew ?_) | (with_reducible refine Below.setCell ?_ ?_ _) | (with_reducible refine Below.stepB (by assumption) ?_ ?_) | go_size)) q j (by omega) hj); go_loud (focus first | omega | (simp; omega) | (simp; done)); intro v5 w5 hO5 hb5 hk5; rw [Nat.zero_add, List.nil_append] at hO5; obtain ⟨A5, c5, rfl⟩ := ownsRow_form hO5; have hB45 : Below w4.heap.size w4 w5 := (by repeat' (first | (with_reducible exact Below.refl _ _) | (with_reducible assumption) | (with_reducible refine Below.alloc ?_ ?_ _) | (with_reducible refine Below.drew ?_) | (with_reducible refine Below.setCell ?_ ?_ _) | (with_reducible refine Below.stepB (by assumption) ?_ ?_) | go_size)); have r0 := (hB45.cell (p := ⟨b, _, none⟩) hbl4).trans e0; have r1 := (hB45.cell (p := ⟨b, _, none⟩) hbl4).trans e1; have r2 := (hB45.cell (p := ⟨b, _, none⟩) hbl4).trans e2; have r3 := (hB45.cell (p := ⟨b, _, none⟩) hbl4).trans e3; have r4 := (hB45.cell (p := ⟨b, _, none⟩) hbl4).trans e4; have r5 := (hB45.cell (p := ⟨b, _, none⟩) hbl4).trans e5; have r6 := (hB45.cell (p := ⟨b, _, none⟩) hbl4).trans e6; clear hB45; have hz5 := hb5.size; (try simp at hz5); (try (have hBf5 : Blk w5 w4.heap.size 29 (f i).arr := (hk5 _ (by first | (simp; done) | (simp; omega)) (by simp [Value.ownBlock])).trans (show Blk ((w4.alloc (.cells (f i).arr 29)).alloc (.cells #[] 29)).drew w4.heap.size 29 (f i).arr from Blk.drew ((blk_newN w4 _ _ rfl).alloc _)))); clear hk5)
                    | (refine step_append_rowG (by rfl) _ _ 37 (by rfl) w4.heap.size 29 i0 _ 7 56 Try.underlying37 hi0 hz0 hz1 hz2 (by rfl) (by decide) _ k (flatG 7 (fun q j => (S.getD q noDG).cell j) k) (by rfl) ?_ _ 0 1 1 (fun _ j => (f i).cell j) (by rfl) ?_ (fun _ j => cell_one _ j) (by omega) (by decide) ?_ ?_; go_loud (focus first | exact hO5 | exact ownsRow_below hO5 (Below.alloc (Below.refl _ _) (Nat.le_refl _) _)); go_loud (focus first | exact dg_at0 (s := f i) hBf5 | exact dg_at0 (s := f i) (blk_newN w5 _ _ rfl)); go_loud (focus first | omega | (simp; omega) | (simp; done)); intro v6 w6 hO6 hb6 hk6; clear hk6; obtain ⟨A6, c6, rfl⟩ := ownsRow_form hO6; have hz6 := hb6.size; (try simp at hz6))
                    | (refine step_append_rowG (by rfl) _ _ 37 (by rfl) w4.heap.size 29 i0 _ 7 56 Try.underlying37 hi0 hz0 hz1 hz2 (by rfl) (by decide) _ (k + 1) (flatG 7 (fun q j => (S.getD q noDG).cell j) k ++ flatG 7 (fun _ j => (f i).cell j) 1) (by rfl) ?_ b8 (k * 7) (m - k) (c8 - k) (fun q j => (S.getD (k + q) noDG).cell j) (by rfl) ?_ (fun q j => cell_one _ j) (by omega) (by decide) ?_ ?_; go_loud (focus exact hO6); go_loud (focus (intro q j hq hj; have h := HCN.out _ (show Below w4.heap.size w4 w6 from by repeat' (first | (with_reducible exact Below.refl _ _) | (with_reducible assumption) | (with_reducible refine Below.alloc ?_ ?_ _) | (with_reducible refine Below.drew ?_) | (with_reducible refine Below.setCell ?_ ?_ _) | (with_reducible refine Below.stepB (by assumption) ?_ ?_) | go_size)) (k + q) j (by omega) hj; rwa [show 0 + (k + q) * 7 + j = k * 7 + q * 7 + j by omega] at h)); go_loud (focus omega); intro v7 w7 hO7 hb7 hk7; clear hk7; obtain ⟨A7, c7, rfl⟩ := ownsRow_form hO7; have hz7 := hb7.size))
                all_goals
                  have HF := Lib.hid (own_flat3 hO7 HM.out hk)
                  have HB7 := Lib.hid (show Below w2.heap.size w2 w7 from (hBW3.out.trans (hbq.mono (by omega))).trans (show Below w2.heap.size wq w7 from by repeat' (first | (with_reducible exact Below.refl _ _) | (with_reducible assumption) | (with_reducible refine Below.alloc ?_ ?_ _) | (with_reducible refine Below.drew ?_) | (with_reducible refine Below.setCell ?_ ?_ _) | (with_reducible refine Below.stepB (by assumption) ?_ ?_) | go_size)))
                  obtain ⟨b7, hb7e⟩ := HF.out.2.form (by omega)
                  subst hb7e
                  have hb7l := (HF.out.2.free (by omega)).1
                  have HLL := Lib.hid (show (layAt S k (f i)).length = m + 1 by rw [layAt_len _ _ _ (by rw [HM.out]; exact hk), HM.out])
                  clear hO7 hb7
                  go_wp2
                  go_roundw
                  case rel => exact ⟨i + 1, b7, c7, by omega, by go_num, by rw [HNEW.out, HLL.out, show k + 1 + (m - k) = m + 1 by omega], by rw [HNEW.out, HLL.out]; exact HF.out.1, hb7l, by rw [HNEW.out, HLL.out]; exact HF.out.2.sl, HB7.out⟩
                  case measure => simp [intOf]; omega
    · obtain rfl : i = n := by omega
      have hlen := HLE.out i
      have HN3 := Lib.hid (show SlDG wr (some ⟨b8, 0, none⟩) (nearS f x y far i).length (fun q => (nearS f x y far i).getD q noDG) from hN.out)
      obtain ⟨S, hSE⟩ : ∃ S, nearS f x y far i = S := ⟨_, rfl⟩
      rw [hSE] at HN3 hlen hc8 ⊢
      have HSE := Lib.hid hSE
      obtain ⟨m, hm⟩ : ∃ m, S.length = m := ⟨_, rfl⟩
      rw [hm] at hlen HN3 hc8 ⊢
      have HM := Lib.hid hm
      clear hm hSE hN x0 x1 hbr
      go_wp2
      have hO0 := Lib.hid (ownsRow_empty wr 3 1)
      go_loopw [11, 12] (fun v11 v12 wq => ∃ j : Nat, j ≤ m ∧ v12 = .int .i64 j ∧ wq.ownsRow wr.heap.size 3 1 v11 (idsTo S j).length ((idsTo S j).map (Value.int .i64)) ∧ Below wr.heap.size wr wq) (fun _ v12 _ => m - (intOf v12).toNat)
      case atStart => exact ⟨0, Nat.zero_le _, rfl, hO0.out, by repeat' (first | (with_reducible exact Below.refl _ _) | (with_reducible assumption) | (with_reducible refine Below.alloc ?_ ?_ _) | (with_reducible refine Below.drew ?_) | (with_reducible refine Below.setCell ?_ ?_ _) | (with_reducible refine Below.stepB (by assumption) ?_ ?_) | go_size)⟩
      case round =>
        rename World => wq
        clear hO0
        obtain ⟨j, hj, rfl, hQ, hbq⟩ := hrel
        have hzq := hbq.size
        obtain ⟨A11, c11, rfl⟩ := ownsRow_form hQ
        by_cases hjl : j < m
        · obtain ⟨bb, oo, hbo, _, hbl2, c0, c1, c2, c3, c4, c5, c6, -⟩ := HN3.out.at hbq hjl
          obtain ⟨rfl, rfl⟩ : b8 = bb ∧ 0 = oo := by simpa using hbo
          simp only [Nat.zero_add] at c0 c1 c2 c3 c4 c5 c6
          have HQ := Lib.hid hQ
          have hlen2 := idsTo_len S j
          clear hbo hQ
          go_wp2_with (at_builtin; refine wpList_append_int1 _ rfl _ _ 43 rfl wr.heap.size 3 j0 Try.underlying43 hj0 hy0 hy1 hy2 _ _ _ rfl (HQ.out.alloc _) _ _ ((S.getD j noDG).id) rfl ?_ ?_ ?_ ?_; go_must (focus (simp; done)); go_must (focus omega); go_must (focus (simp; omega)); intro v9 w9 hO9 hb9; have hz9 := hb9.size; (try simp at hz9))
          go_roundw
          case rel => exact ⟨j + 1, by omega, by go_num, by rw [idsTo_snoc]; exact owns_snoc hO9, by repeat' (first | (with_reducible exact Below.refl _ _) | (with_reducible assumption) | (with_reducible refine Below.alloc ?_ ?_ _) | (with_reducible refine Below.drew ?_) | (with_reducible refine Below.setCell ?_ ?_ _) | (with_reducible refine Below.stepB (by assumption) ?_ ?_) | go_size)⟩
          case measure => simp [intOf]; omega
        · obtain rfl : j = m := by omega
          have HE : Hid (idsTo S j = S.map DG.id) := by show _ = _; rw [← idsTo_all, HM.out]
          have HQ := Lib.hid hQ
          clear hQ
          go_wp2
          go_ret2
          exact IntsOut.row HQ.out (by rw [HSE.out, HE.out]) rfl (by omega) (HWR.out.trans (hbq.mono (by omega)))
theorem Within_any (A : Option Addr) (n c : Nat) (f : Nat → DG) (x y far : Int) (w : World) (hS : SlDG w A n f) (hn : n ≤ 1048576) :
    Calls Try.prog 43 #[.slice A n c, .agg #[.int .i64 x, .int .i64 y], .int .i64 far] w fun e w' => IntsOut w (withL f x y far n) (withOk f x y far n) e w' := by
  rcases Bool.eq_false_or_eq_true (withOk f x y far n) with h | h
  · have h0 := h
    simp only [withOk, Bool.and_eq_true] at h0
    rw [withL, h]
    exact Within_yes A n c f x y far w hS hn h0.1 h0.2.1 h0.2.2
  · rw [withL, h]
    exact Within_no A n c f x y far w hS hn h
theorem specWithin_any (A : Option Addr) (n c : Nat) (f : Nat → DG) (x y far : Int) (w : World) (hS : SlDG w A n f) (hn : n ≤ 1048576) :
    Calls Try.prog 41 #[.slice A n c, .agg #[.int .i64 x, .int .i64 y], .int .i64 far] w fun e w' => IntsOut w (withL f x y far n) (withOk f x y far n) e w' := by
  rcases Bool.eq_false_or_eq_true (withOk f x y far n) with h | h
  · have h0 := h
    simp only [withOk, Bool.and_eq_true] at h0
    rw [withL, h]
    exact specWithin_yes A n c f x y far w hS hn h0.1 h0.2.1 h0.2.2
  · rw [withL, h]
    exact specWithin_no A n c f x y far w hS hn h
end Go.Proofs.Ytclcgckledbpfaa
