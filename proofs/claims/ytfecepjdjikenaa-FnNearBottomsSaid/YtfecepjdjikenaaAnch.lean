/- Contracts: those of a list of samples of one's own for which something holds are struck out by the library. -/
import Derived.Test.YtfecepjdjikenaaSortBS
import Derived.Test.YtfecepjdjikenaaPlain
import Derived.Lib.SliceRun
namespace Go.Proofs.Ytfecepjdjikenaa
open Go.RowKit
def noB : BS := ⟨0, 0, 0, 0, 0, 0⟩
theorem Blk.setCells {g : Nat} {t : TypeId} : ∀ (vs : List Value) (o : Nat) (w : World) (cs : Array Value), Blk w g t cs → o + vs.length ≤ cs.size →
    ∃ cs', Blk (w.setCells g o vs) g t cs' ∧ cs'.size = cs.size ∧ (∀ q, (q < o ∨ o + vs.length ≤ q) → cs'[q]? = cs[q]?) ∧ ∀ q, q < vs.length → cs'[o + q]? = vs[q]?
  | [], o, w, cs, h, _ => ⟨cs, h, rfl, fun _ _ => rfl, fun q hq => absurd hq (by simp)⟩
  | v :: r, o, w, cs, h, hs => by
    simp only [List.length_cons] at hs
    obtain ⟨cs', h1, h2, h3, h4⟩ := Blk.setCells r (o + 1) _ _ (h.set_ o v) (by simp; omega)
    refine ⟨cs', h1, by simpa using h2, fun q hq => ?_, fun q hq => ?_⟩
    · simp only [List.length_cons] at hq
      rw [h3 q (by omega), Array.getElem?_setIfInBounds_ne (by omega)]
    · rcases Nat.eq_zero_or_pos q with rfl | hq0
      · have ho : o < cs.size := by omega
        rw [h3 _ (.inl (by omega))]
        simp [ho]
      · obtain ⟨p, rfl⟩ : ∃ p, q = p + 1 := ⟨q - 1, by omega⟩
        simp only [List.length_cons] at hq
        have := h4 p (by omega)
        rw [show o + (p + 1) = o + 1 + p by omega, this]
        simp
theorem Kept.setCells {w w' : World} {g n o : Nat} (vs : List Value) (h : Kept w w' (some ⟨g, 0, none⟩) n) (hn : 0 < n) : Kept w (w'.setCells g o vs) (some ⟨g, 0, none⟩) n := by
  induction vs generalizing o w' with
  | nil => exact h
  | cons v r ih => exact ih (h.setCell hn v)
theorem run_clear_many {P : Program} (w : World) (t e : TypeId) (z : Value) (k : Nat) (ht : P.underlying t = some (.slice e)) (hv : ∀ w, (zeroValue e).run P w = .ok z w) (hz : z.cells.size = k) (hk : 0 < k) (h1 : ∀ i, i < k → (z.cells[i]!).oneCell' = true) (b o n c : Nat) (hn : 0 < n)
    (hc : ∀ j, j < n * k → (w.cell? ⟨b, o + j, none⟩).isSome = true) (hf : ∀ j, j < n * k → w.frozen? ⟨b, o + j, none⟩ = false) :
    ∃ vs : List Value, vs.length = n * k ∧ ∀ ty, (Builtin.clear_ #[t] ty #[.slice (some ⟨b, o, none⟩) n c]).run P w = .ok (.tuple #[]) (w.setCells b o vs) := by
  refine ⟨(Builtin.zeroCells z.cells n).toList, by simp [Builtin.zeroCells, hz], fun ty => ?_⟩
  have hl : (Builtin.zeroCells z.cells n).toList.length = n * k := by simp [Builtin.zeroCells, hz]
  have hst := run_storeCells_cells (P := P) b o (Builtin.zeroCells z.cells n).toList 0 w (by rw [hl]; simpa using hc) (by rw [hl]; simpa using hf) (by
    intro v hv'
    simp only [Builtin.zeroCells, Array.toList_map, List.mem_map] at hv'
    obtain ⟨i, _, rfl⟩ := hv'
    exact h1 _ (by rw [hz]; exact Nat.mod_lt _ hk))
  simp only [Nat.add_zero] at hst
  obtain ⟨m, rfl⟩ : ∃ m, n = m + 1 := ⟨n - 1, by omega⟩
  simp [Builtin.clear_, run_underlying ht, hv, hst]
theorem zeroBS (w : World) : (zeroValue 29).run Try.prog w = .ok (.agg #[.int .i64 0, .int .i64 0, .int .i64 0, .int .i64 0, .int .i64 0, .int .i64 0]) w := by kernel_rfl
theorem idxBS_any (A : Option Addr) (n c : Nat) (f : Nat → BS) (p : BS → Bool) (g : Nat) (lb : Array Value) (w : World) (hS : SlS w A n f) (hn : n ≤ 1048576)
    (eg : ∀ args w, (callFunc g args).run Try.prog w = .ok (.enter g args) w) (hp : ∀ (k : Nat) W, k < n → Below w.heap.size w W → Calls Try.prog g (#[.agg #[.int .i64 (f k).id, .int .i64 (f k).x, .int .i64 (f k).y, .int .i64 (f k).mud, .int .i64 (f k).sand, .int .i64 (f k).rock]] ++ lb) W fun e w' => e = .returned (.bool (p (f k))) ∧ Below W.heap.size W w') :
    Calls Try.prog 97 #[.slice A n c, .func (.func g) #[] lb] w fun e w' => e = .returned (.int .i64 (idxP (fun i => p (f i)) n)) ∧ Below w.heap.size w w' := by
  have HP := Lib.hid hp
  clear hp
  go_enter Try.func97, Try.ntmps97
  go_wp2
  go_loopw [8] (fun v8 wr => ∃ k : Nat, k ≤ n ∧ v8 = .int .i64 k ∧ Hid (∀ i, i < k → p (f i) = false) ∧ Below w.heap.size w wr) (fun v8 _ => n - (intOf v8).toNat)
  case atStart => exact ⟨0, Nat.zero_le _, rfl, fun i hi => absurd hi (by omega), by repeat' (first | (with_reducible exact Below.refl _ _) | (with_reducible assumption) | (with_reducible refine Below.alloc ?_ ?_ _) | (with_reducible refine Below.drew ?_) | (with_reducible refine Below.setCell ?_ ?_ _) | (with_reducible refine Below.stepB (by assumption) ?_ ?_) | go_size)⟩
  case round =>
    obtain ⟨k, hk, rfl, hall, hbr⟩ := hrel
    have hzr := hbr.size
    by_cases hlt : k < n
    · obtain ⟨b, off, rfl, hbl, hbl2, c0, c1, c2, c3, c4, c5, hc⟩ := hS.at hbr hlt
      clear hc
      have HPK := Lib.hid (fun W hb => HP.out k W hlt hb)
      rcases Bool.eq_false_or_eq_true (p (f k)) with hq | hq
      · rw [hq] at HPK
        have HQ := Lib.hid (idxP_some (p := fun i => p (f i)) hq hall n hlt)
        go_wp2_with (go_at_fn g; refine (HPK.out _ (by repeat' (first | (with_reducible exact Below.refl _ _) | (with_reducible assumption) | (with_reducible refine Below.alloc ?_ ?_ _) | (with_reducible refine Below.drew ?_) | (with_reducible refine Below.setCell ?_ ?_ _) | (with_reducible refine Below.stepB (by assumption) ?_ ?_) | go_size))).mono ?_; rintro e w3 ⟨rfl, hbw3⟩; obtain ⟨hzw3, hcw3, hfw3⟩ := bfacts hbw3; (try simp at hzw3 hcw3 hfw3); (try (have : w.heap.size < w3.heap.size := by omega)); (try (have : w.heap.size + 1 < w3.heap.size := by omega)); (try (have : w.heap.size + 1 + 1 < w3.heap.size := by omega)); (try (have : w.heap.size + 1 + 1 + 1 < w3.heap.size := by omega)))
        go_ret
        exact ⟨ret_int HQ.out.symm, by repeat' (first | (with_reducible exact Below.refl _ _) | (with_reducible assumption) | (with_reducible refine Below.alloc ?_ ?_ _) | (with_reducible refine Below.drew ?_) | (with_reducible refine Below.setCell ?_ ?_ _) | (with_reducible refine Below.stepB (by assumption) ?_ ?_) | go_size)⟩
      · rw [hq] at HPK
        have hall2 : Hid (∀ i, i < k + 1 → p (f i) = false) := fun i hi => by
          rcases Nat.lt_or_ge i k with h1 | h1
          · exact hall i h1
          · obtain rfl : i = k := by omega
            exact hq
        go_wp2_with (go_at_fn g; refine (HPK.out _ (by repeat' (first | (with_reducible exact Below.refl _ _) | (with_reducible assumption) | (with_reducible refine Below.alloc ?_ ?_ _) | (with_reducible refine Below.drew ?_) | (with_reducible refine Below.setCell ?_ ?_ _) | (with_reducible refine Below.stepB (by assumption) ?_ ?_) | go_size))).mono ?_; rintro e w3 ⟨rfl, hbw3⟩; obtain ⟨hzw3, hcw3, hfw3⟩ := bfacts hbw3; (try simp at hzw3 hcw3 hfw3); (try (have : w.heap.size < w3.heap.size := by omega)); (try (have : w.heap.size + 1 < w3.heap.size := by omega)); (try (have : w.heap.size + 1 + 1 < w3.heap.size := by omega)); (try (have : w.heap.size + 1 + 1 + 1 < w3.heap.size := by omega)))
        go_roundw
        case rel => exact ⟨k + 1, by omega, by go_num, hall2, by repeat' (first | (with_reducible exact Below.refl _ _) | (with_reducible assumption) | (with_reducible refine Below.alloc ?_ ?_ _) | (with_reducible refine Below.drew ?_) | (with_reducible refine Below.setCell ?_ ?_ _) | (with_reducible refine Below.stepB (by assumption) ?_ ?_) | go_size)⟩
        case measure => simp [intOf]; omega
    · obtain rfl : k = n := by omega
      go_wp2
      go_ret
      exact ⟨ret_int (idxP_none hall).symm, by repeat' (first | (with_reducible exact Below.refl _ _) | (with_reducible assumption) | (with_reducible refine Below.alloc ?_ ?_ _) | (with_reducible refine Below.drew ?_) | (with_reducible refine Below.setCell ?_ ?_ _) | (with_reducible refine Below.stepB (by assumption) ?_ ?_) | go_size)⟩
/-- those for which it does not hold -/
def keepL (p : BS → Bool) (f : Nat → BS) (n : Nat) : List BS := pick (fun i => !p (f i)) f n
theorem keepL_len (p : BS → Bool) (f : Nat → BS) (n : Nat) : (keepL p f n).length ≤ n := pick_len n
theorem keepL_all {p : BS → Bool} {f : Nat → BS} : ∀ n, (∀ i, i < n → p (f i) = false) → (keepL p f n).length = n ∧ ∀ i, i < n → (keepL p f n).getD i noB = f i
  | 0, _ => ⟨rfl, fun i hi => absurd hi (by omega)⟩
  | n + 1, h => by
    obtain ⟨h1, h2⟩ := keepL_all n (fun i hi => h i (by omega))
    have e : keepL p f (n + 1) = keepL p f n ++ [f n] := pick_hit (by simp [h n (by omega)])
    rw [e]
    refine ⟨by simp [h1], fun i hi => ?_⟩
    rcases Nat.lt_or_ge i n with h3 | h3
    · rw [← h2 i h3]
      simp [List.getD, List.getElem?_append_left (show i < (keepL p f n).length by omega)]
    · obtain rfl : i = n := by omega
      simp [List.getD, List.getElem?_append_right (show (keepL p f i).length ≤ i by omega), h1]
set_option maxRecDepth 100000 in
set_option maxHeartbeats 2000000 in
theorem delBS_any (b n c lo : Nat) (f : Nat → BS) (p : BS → Bool) (g : Nat) (lb : Array Value) (w : World) (hO : Own w lo 6 (some ⟨b, 0, none⟩) n (fun i j => (f i).cell j)) (hn : n ≤ 1048576) (hnc : n ≤ c)
    (eg : ∀ args w, (callFunc g args).run Try.prog w = .ok (.enter g args) w)
    (hp : ∀ (k : Nat) W, k < n → Kept w W (some ⟨b, 0, none⟩) n → Calls Try.prog g (#[.agg #[.int .i64 (f k).id, .int .i64 (f k).x, .int .i64 (f k).y, .int .i64 (f k).mud, .int .i64 (f k).sand, .int .i64 (f k).rock]] ++ lb) W fun e w' => e = .returned (.bool (p (f k))) ∧ Below W.heap.size W w') :
    Calls Try.prog 77 #[.slice (some ⟨b, 0, none⟩) n c, .func (.func g) #[] lb] w
    fun e w' => e = .returned (.slice (some ⟨b, 0, none⟩) (keepL p f n).length c) ∧ Own w' lo 6 (some ⟨b, 0, none⟩) (keepL p f n).length (fun i j => ((keepL p f n).getD i noB).cell j) ∧ Kept w w' (some ⟨b, 0, none⟩) n := by
  have HP := Lib.hid hp
  have HO := Lib.hid hO
  have HI := Lib.hid (idxBS_any (some ⟨b, 0, none⟩) n c f p g lb w hO.sl hn eg (fun k W hk hb => hp k W hk ((Kept.refl w _ n).laterB hb)))
  have HC := Lib.hid (idxP_cases (fun i => p (f i)) n)
  clear hp hO
  go_enter Try.func77, Try.ntmps77
  go_wp2_with fail
  refine HI.out.mono ?_
  rintro e w1 ⟨rfl, hbw1⟩
  have HB1 := Lib.hid hbw1
  have hz1 := hbw1.size
  clear hbw1
  rcases HC.out with ⟨hi, hall⟩ | ⟨q, hqn, hi, hq, hall⟩
  · rw [hi]
    have HA := Lib.hid (keepL_all n hall)
    clear hall hi
    go_wp2
    go_ret
    rw [HA.out.1]
    exact ⟨rfl, (HO.out.below HB1.out).congr (fun i j hi _ => by rw [HA.out.2 i hi]), (Kept.refl w _ n).laterB HB1.out⟩
  · rw [hi]
    have hqb : ((q : Int) == -1) = false := by simp
    obtain ⟨k1, k2⟩ := keepL_all q hall
    have k3 : keepL p f (q + 1) = keepL p f q := pick_miss (by simp [hq])
    have HK1 := Lib.hid k1
    have HK2 := Lib.hid k2
    have HK3 := Lib.hid k3
    clear hq hall hi k1 k2 k3
    go_wp2
    go_loopw [5, 6] (fun v5 v6 wr => ∃ (j : Nat) (G : Nat → BS), j ≤ n ∧ v6 = .int .i64 j ∧ v5 = .int .i64 ((keepL p f j).length : Nat) ∧ (keepL p f j).length < j ∧ Hid (Own wr lo 6 (some ⟨b, 0, none⟩) n (fun a j => (G a).cell j) ∧ Kept w wr (some ⟨b, 0, none⟩) n ∧ (∀ a, a < (keepL p f j).length → G a = (keepL p f j).getD a noB) ∧ ∀ a, j ≤ a → a < n → G a = f a)) (fun _ v6 _ => n - (intOf v6).toNat)
    case atStart => exact ⟨q + 1, f, hqn, by go_num, by rw [HK3.out, HK1.out], by rw [HK3.out, HK1.out]; omega, HO.out.below HB1.out, (Kept.refl w _ n).laterB HB1.out, fun a ha => by rw [HK3.out, HK1.out] at ha; rw [HK3.out, HK2.out a ha], fun _ _ _ => rfl⟩
    case round =>
      obtain ⟨j, G, hj, rfl, rfl, hij, HR⟩ := hrel
      by_cases hlt : j < n
      · have hR := HR.out.1
        have eG := HR.out.2.2.2 j (Nat.le_refl _) hlt
        have c0 := hR.at_ (i := j) (j := 0) hlt (by decide)
        have c1 := hR.at_ (i := j) (j := 1) hlt (by decide)
        have c2 := hR.at_ (i := j) (j := 2) hlt (by decide)
        have c3 := hR.at_ (i := j) (j := 3) hlt (by decide)
        have c4 := hR.at_ (i := j) (j := 4) hlt (by decide)
        have c5 := hR.at_ (i := j) (j := 5) hlt (by decide)
        simp only [eG, BS.cell, Nat.add_zero] at c0 c1 c2 c3 c4 c5
        obtain ⟨hbl, hfz⟩ := hR.free (by omega)
        have HPJ := Lib.hid (fun W (hb : Below wr.heap.size wr W) => HP.out j W hlt (HR.out.2.1.laterB hb))
        clear hR eG
        rcases Bool.eq_false_or_eq_true (p (f j)) with hp | hp
        · rw [hp] at HPJ
          have HE := Lib.hid (show keepL p f (j + 1) = keepL p f j from pick_miss (by simp [hp]))
          clear hp
          obtain ⟨i, hi⟩ : ∃ i, i = (keepL p f j).length := ⟨_, rfl⟩
          have HI := Lib.hid hi
          rw [← hi] at hij ⊢
          clear hi
          go_wp2_with (go_at_fn g; refine (HPJ.out _ (by repeat' (first | (with_reducible exact Below.refl _ _) | (with_reducible assumption) | (with_reducible refine Below.alloc ?_ ?_ _) | (with_reducible refine Below.drew ?_) | (with_reducible refine Below.setCell ?_ ?_ _) | (with_reducible refine Below.stepB (by assumption) ?_ ?_) | go_size))).mono ?_; rintro e w3 ⟨rfl, hbw3⟩; obtain ⟨hzw3, hcw3, hfw3⟩ := bfacts hbw3; (try simp at hzw3 hcw3 hfw3); (try (have : w.heap.size < w3.heap.size := by omega)); (try (have : w.heap.size + 1 < w3.heap.size := by omega)); (try (have : w.heap.size + 1 + 1 < w3.heap.size := by omega)); (try (have : w.heap.size + 1 + 1 + 1 < w3.heap.size := by omega)))
          have HB3 := Lib.hid (show Below wr.heap.size wr w3 from by repeat' (first | (with_reducible exact Below.refl _ _) | (with_reducible assumption) | (with_reducible refine Below.alloc ?_ ?_ _) | (with_reducible refine Below.drew ?_) | (with_reducible refine Below.setCell ?_ ?_ _) | (with_reducible refine Below.stepB (by assumption) ?_ ?_) | go_size))
          go_roundw
          case rel =>
            obtain ⟨r1, r2, r3, r4⟩ := HR.out
            exact ⟨j + 1, G, by omega, by go_num, by rw [HE.out, HI.out], by rw [HE.out, ← HI.out]; omega, r1.below HB3.out, r2.laterB HB3.out, fun a ha => by rw [HE.out] at ha ⊢; exact r3 a ha, fun a h1 h2 => r4 a (by omega) h2⟩
          case measure => simp [intOf]; omega
        · rw [hp] at HPJ
          have HE := Lib.hid (show keepL p f (j + 1) = keepL p f j ++ [f j] from pick_hit (by simp [hp]))
          clear hp
          obtain ⟨i, hi⟩ : ∃ i, i = (keepL p f j).length := ⟨_, rfl⟩
          have HI := Lib.hid hi
          rw [← hi] at hij ⊢
          clear hi
          have hin : (i : Int) < (n : Int) := by omega
          go_wp2_with fail
          refine (HPJ.out _ (by repeat' (first | (with_reducible exact Below.refl _ _) | (with_reducible assumption) | (with_reducible refine Below.alloc ?_ ?_ _) | (with_reducible refine Below.drew ?_) | (with_reducible refine Below.setCell ?_ ?_ _) | (with_reducible refine Below.stepB (by assumption) ?_ ?_) | go_size))).mono ?_
          rintro e w3 ⟨rfl, hbw3⟩
          obtain ⟨hzw3, hcw3, hfw3⟩ := bfacts hbw3; (try simp at hzw3 hcw3 hfw3); (try (have : w.heap.size < w3.heap.size := by omega)); (try (have : w.heap.size + 1 < w3.heap.size := by omega)); (try (have : w.heap.size + 1 + 1 < w3.heap.size := by omega)); (try (have : w.heap.size + 1 + 1 + 1 < w3.heap.size := by omega))
          have hR3 := (HR.out.1.allocd (.cells #[.int .i64 (f j).id, .int .i64 (f j).x, .int .i64 (f j).y, .int .i64 (f j).mud, .int .i64 (f j).sand, .int .i64 (f j).rock] 29)).below hbw3
          have e0 := hR3.at_ (i := i) (j := 0) (by omega) (by decide)
          have e1 := hR3.at_ (i := i) (j := 1) (by omega) (by decide)
          have e2 := hR3.at_ (i := i) (j := 2) (by omega) (by decide)
          have e3 := hR3.at_ (i := i) (j := 3) (by omega) (by decide)
          have e4 := hR3.at_ (i := i) (j := 4) (by omega) (by decide)
          have e5 := hR3.at_ (i := i) (j := 5) (by omega) (by decide)
          simp only [BS.cell, Nat.add_zero] at e0 e1 e2 e3 e4 e5
          obtain ⟨hblw3, hfz3⟩ := hR3.free (by omega)
          have HR3 := Lib.hid hR3
          have HB3 := Lib.hid (show Below wr.heap.size wr w3 from by repeat' (first | (with_reducible exact Below.refl _ _) | (with_reducible assumption) | (with_reducible refine Below.alloc ?_ ?_ _) | (with_reducible refine Below.drew ?_) | (with_reducible refine Below.setCell ?_ ?_ _) | (with_reducible refine Below.stepB (by assumption) ?_ ?_) | go_size))
          have x0 : w3.cell? ⟨wr.heap.size, 0, none⟩ = some (.int .i64 (f j).id) := (hcw3 _ _ (by omega)).trans (by simp)
          have x1 : w3.cell? ⟨wr.heap.size, 1, none⟩ = some (.int .i64 (f j).x) := (hcw3 _ _ (by omega)).trans (by simp)
          have x2 : w3.cell? ⟨wr.heap.size, 2, none⟩ = some (.int .i64 (f j).y) := (hcw3 _ _ (by omega)).trans (by simp)
          have x3 : w3.cell? ⟨wr.heap.size, 3, none⟩ = some (.int .i64 (f j).mud) := (hcw3 _ _ (by omega)).trans (by simp)
          have x4 : w3.cell? ⟨wr.heap.size, 4, none⟩ = some (.int .i64 (f j).sand) := (hcw3 _ _ (by omega)).trans (by simp)
          have x5 : w3.cell? ⟨wr.heap.size, 5, none⟩ = some (.int .i64 (f j).rock) := (hcw3 _ _ (by omega)).trans (by simp)
          have hxl : wr.heap.size < w3.heap.size := by omega
          clear hR3 c0 c1 c2 c3 c4 c5 hfz hcw3 hfw3
          go_wp2
          go_roundw
          case rel =>
            obtain ⟨r1, r2, r3, r4⟩ := HR.out
            refine ⟨j + 1, fun a => if a = i then f j else G a, by omega, by go_num, by rw [HE.out, List.length_append, ← HI.out]; rfl, by rw [HE.out, List.length_append, ← HI.out, List.length_singleton]; omega, (putBS (i := i) (f j) HR3.out).congr (fun a m _ _ => ?_), putKeptBS (f j) (r2.laterB HB3.out) (by omega), fun a ha => ?_, fun a h1 h2 => ?_⟩
            · by_cases h : a = i <;> simp [h]
            · rw [HE.out] at ha ⊢
              rw [List.length_append, ← HI.out, List.length_singleton] at ha
              by_cases h : a = i
              · subst h
                simp [HI.out]
              · simp only [h, if_false]
                rw [r3 a (by rw [← HI.out]; omega)]
                simp [List.getD, List.getElem?_append_left (show a < (keepL p f j).length by rw [← HI.out]; omega)]
            · simp only [show ¬ a = i by omega, if_false]
              exact r4 a (by omega) h2
          case measure => simp [intOf]; omega
      · obtain rfl : j = n := by omega
        have HL := keepL_len p f j
        obtain ⟨i, hi⟩ : ∃ i, i = (keepL p f j).length := ⟨_, rfl⟩
        have HI := Lib.hid hi
        rw [← hi] at hij HL ⊢
        have HR2 := HR.out
        rw [← hi] at HR2
        clear hi HR
        obtain ⟨r1, r2, r3, r4⟩ := HR2
        obtain ⟨b', t, cs, hb', hlo, hB, hsz, hcs⟩ := r1 (by omega)
        obtain rfl : b = b' := by simpa using hb'
        clear hb'
        obtain ⟨vs, hvl, hcl⟩ := run_clear_many (P := Try.prog) wr 40 29 _ 6 Try.underlying40 zeroBS rfl (by decide) (by decide) b (i * 6) (j - i) (c - i) (by omega) (fun q hq => by
          rw [hB.cell]
          simp
          omega) (fun q _ => hB.frozen _)
        have HV := Lib.hid hvl
        have HB := Lib.hid hB
        have HCS := Lib.hid hcs
        have R2 := Lib.hid r2
        have R3 := Lib.hid r3
        have hic : i ≤ c := by omega
        have hne : ¬ c = i := by omega
        clear hvl hB hcs r1 r2 r3 r4
        go_wp2
        go_ret
        obtain ⟨c2, hB2, hs2, ho2, _⟩ := Blk.setCells vs (i * 6) wr cs HB.out (by rw [HV.out]; omega)
        rw [← HI.out]
        refine ⟨rfl, fun _ => ⟨b, t, c2, rfl, hlo, hB2, by omega, fun a m ha hm => ?_⟩, Kept.setCells _ R2.out (by omega)⟩
        rw [ho2 _ (.inl (by omega)), HCS.out a m (by omega) hm, R3.out a ha]
        rfl
end Go.Proofs.Ytfecepjdjikenaa
