/- Contracts of the helpers that compare, mark and hold lists of pairs of numbers. -/
import Derived.Test.YtfflbkmncnaffaaIntsC
import Derived.Test.YtfflbkmncnaffaaMem
namespace Go.Proofs.Ytfflbkmncnaffaa
open Go.RowKit
theorem blk_newP {g : Nat} (w : World) (t : TypeId) (cs : Array Value) (hg : g = w.heap.size) : Blk (w.alloc (.cells cs t)) g t cs := by
  subst hg
  exact Blk.new w t cs
theorem eqIntA2_same (x y : Int) (w : World) : Calls Try.prog 108 #[.agg #[.int .i64 x, .int .i64 y], .agg #[.int .i64 x, .int .i64 y]] w fun e w' => e = .returned (.bool true) ∧ Below w.heap.size w w' := by
  go_enter Try.func108, Try.ntmps108
  go_wp2
  go_loopw [5] (fun v5 wr => ∃ k : Nat, k ≤ 2 ∧ v5 = .int .i64 k ∧ Blk wr w.heap.size 59 #[.int .i64 x, .int .i64 y] ∧ Blk wr (w.heap.size + 1) 59 #[.int .i64 x, .int .i64 y] ∧ Below w.heap.size w wr) (fun v5 _ => 2 - (intOf v5).toNat)
  case atStart => exact ⟨0, by omega, rfl, (blk_newP w _ _ rfl).alloc _, blk_newP _ _ _ (by simp), by repeat' (first | (with_reducible exact Below.refl _ _) | (with_reducible assumption) | (with_reducible refine Below.alloc ?_ ?_ _) | (with_reducible refine Below.drew ?_) | (with_reducible refine Below.setCell ?_ ?_ _) | (with_reducible refine Below.stepB (by assumption) ?_ ?_) | go_size)⟩
  case round =>
    obtain ⟨k, hk, rfl, hB, hB', hbr⟩ := hrel
    have hzr := hbr.size
    have hg := hB.lt
    have hg' := hB'.lt
    have c0 : wr.cell? ⟨w.heap.size, 0, none⟩ = some (.int .i64 x) := hB.cell 0
    have c1 : wr.cell? ⟨w.heap.size, 1, none⟩ = some (.int .i64 y) := hB.cell 1
    have d0 : wr.cell? ⟨w.heap.size + 1, 0, none⟩ = some (.int .i64 x) := hB'.cell 0
    have d1 : wr.cell? ⟨w.heap.size + 1, 1, none⟩ = some (.int .i64 y) := hB'.cell 1
    obtain rfl | rfl | rfl : k = 0 ∨ k = 1 ∨ k = 2 := by omega
    · go_wp2
      refine wp_region_later (by kernel_rfl) (by kernel_rfl) (fun hlx => ?_)
      repeat (go_big_quiet_step (fail))
      refine wpQuiet_nil ?_
      clear hlx
      intro w3 hbw3
      obtain ⟨hzw3, hcw3, hfw3⟩ := bfacts hbw3; (try simp at hzw3 hcw3 hfw3); (try (have : w.heap.size < w3.heap.size := by omega)); (try (have : w.heap.size + 1 < w3.heap.size := by omega)); (try (have : w.heap.size + 1 + 1 < w3.heap.size := by omega)); (try (have : w.heap.size + 1 + 1 + 1 < w3.heap.size := by omega))
      go_wp2
      go_roundw
      case rel => exact ⟨1, by omega, by go_num, hB.below hbw3 (by omega), hB'.below hbw3 (by omega), by repeat' (first | (with_reducible exact Below.refl _ _) | (with_reducible assumption) | (with_reducible refine Below.alloc ?_ ?_ _) | (with_reducible refine Below.drew ?_) | (with_reducible refine Below.setCell ?_ ?_ _) | (with_reducible refine Below.stepB (by assumption) ?_ ?_) | go_size)⟩
      case measure => simp [intOf]
    · go_wp2
      refine wp_region_later (by kernel_rfl) (by kernel_rfl) (fun hlx => ?_)
      repeat (go_big_quiet_step (fail))
      refine wpQuiet_nil ?_
      clear hlx
      intro w3 hbw3
      obtain ⟨hzw3, hcw3, hfw3⟩ := bfacts hbw3; (try simp at hzw3 hcw3 hfw3); (try (have : w.heap.size < w3.heap.size := by omega)); (try (have : w.heap.size + 1 < w3.heap.size := by omega)); (try (have : w.heap.size + 1 + 1 < w3.heap.size := by omega)); (try (have : w.heap.size + 1 + 1 + 1 < w3.heap.size := by omega))
      go_wp2
      go_roundw
      case rel => exact ⟨2, by omega, by go_num, hB.below hbw3 (by omega), hB'.below hbw3 (by omega), by repeat' (first | (with_reducible exact Below.refl _ _) | (with_reducible assumption) | (with_reducible refine Below.alloc ?_ ?_ _) | (with_reducible refine Below.drew ?_) | (with_reducible refine Below.setCell ?_ ?_ _) | (with_reducible refine Below.stepB (by assumption) ?_ ?_) | go_size)⟩
      case measure => simp [intOf]
    · go_wp2
      go_ret
      exact ⟨rfl, by repeat' (first | (with_reducible exact Below.refl _ _) | (with_reducible assumption) | (with_reducible refine Below.alloc ?_ ?_ _) | (with_reducible refine Below.drew ?_) | (with_reducible refine Below.setCell ?_ ?_ _) | (with_reducible refine Below.stepB (by assumption) ?_ ?_) | go_size)⟩
def pairC (f : Nat → Int × Int) (i j : Nat) : Value := if j = 0 then .int .i64 (f i).1 else .int .i64 (f i).2
/-- a slice of pairs reads as f -/
def SlP (w : World) (A : Option Addr) (n : Nat) (f : Nat → Int × Int) : Prop := Sl w 2 A n (pairC f)
theorem SlP.at {w wr : World} {A : Option Addr} {n k : Nat} {f : Nat → Int × Int} (hS : SlP w A n f) (hb : Below w.heap.size w wr) (hk : k < n) : ∃ b off, A = some ⟨b, off, none⟩ ∧ b < w.heap.size ∧ b < wr.heap.size ∧
    wr.cell? ⟨b, off + k * 2, none⟩ = some (.int .i64 (f k).1) ∧ wr.cell? ⟨b, off + k * 2 + 1, none⟩ = some (.int .i64 (f k).2) := by
  obtain ⟨b, off, hA, hbl, hc⟩ := hS (by omega)
  have hz := hb.size
  exact ⟨b, off, hA, hbl, by omega, (hb.cell (p := ⟨b, _, none⟩) hbl).trans (hc k 0 hk (by decide)), (hb.cell (p := ⟨b, _, none⟩) hbl).trans (hc k 1 hk (by decide))⟩
theorem eqIntA2S_same (A A' : Option Addr) (n c c' : Nat) (f : Nat → Int × Int) (w : World) (hS : SlP w A n f) (hS' : SlP w A' n f) (hn : n ≤ 1048576) : Calls Try.prog 57 #[.slice A n c, .slice A' n c'] w
    fun e w' => e = .returned (.bool true) ∧ Below w.heap.size w w' := by
  go_enter Try.func57, Try.ntmps57
  go_wp2
  go_loopw [5] (fun v4 wr => ∃ (k : Nat), k ≤ n ∧ v4 = .int .i64 k ∧ Below w.heap.size w wr) (fun v4 _ => n - (intOf v4).toNat)
  case atStart => exact ⟨0, Nat.zero_le _, rfl, Below.refl _ _⟩
  case round =>
    obtain ⟨k, hk, rfl, hbr⟩ := hrel
    have hzr := hbr.size
    by_cases hlt : k < n
    · obtain ⟨b, off, rfl, hbl, hbl2, c0, c1⟩ := hS.at hbr hlt
      obtain ⟨b', off', rfl, hbl', hbl2', e0, e1⟩ := hS'.at hbr hlt
      clear hS hS'
      go_wp2
      refine wp_region_later (by kernel_rfl) (by kernel_rfl) (fun hlx => ?_)
      repeat (go_big_quiet_step ((go_at_call 108; exact Later.call (eqIntA2_same (f k).1 (f k).2 _))))
      refine wpQuiet_nil ?_
      clear hlx
      intro w1 hbw1
      obtain ⟨hzw1, hcw1, hfw1⟩ := bfacts hbw1; (try simp at hzw1 hcw1 hfw1); (try (have : w.heap.size < w1.heap.size := by omega)); (try (have : w.heap.size + 1 < w1.heap.size := by omega)); (try (have : w.heap.size + 1 + 1 < w1.heap.size := by omega)); (try (have : w.heap.size + 1 + 1 + 1 < w1.heap.size := by omega))
      go_wp2
      go_roundw
      case rel => exact ⟨k + 1, by omega, by go_num, by repeat' (first | (with_reducible exact Below.refl _ _) | (with_reducible assumption) | (with_reducible refine Below.alloc ?_ ?_ _) | (with_reducible refine Below.drew ?_) | (with_reducible refine Below.setCell ?_ ?_ _) | (with_reducible refine Below.stepB (by assumption) ?_ ?_) | go_size)⟩
      case measure => simp [intOf]; omega
    · obtain rfl : k = n := by omega
      clear hS hS'
      go_wp2
      go_ret
      exact ⟨rfl, hbr⟩
/-- marked up to the pair k, number j -/
def mk2 (q : Int) (g : Nat → Nat → Value) (k j : Nat) (a b : Nat) : Value := if a < k ∨ (a = k ∧ b < j) then .int .i64 (q + a * 2 + b) else g a b
theorem mk2_set (q : Int) (g : Nat → Nat → Value) (k j : Nat) (a b : Nat) : (if a = k ∧ b = j then Value.int .i64 (q + k * 2 + j) else mk2 q g k j a b) = mk2 q g k (j + 1) a b := by
  unfold mk2
  by_cases h : a = k
  · subst h
    by_cases h2 : b = j
    · subst h2; simp
    · have e : (b < j + 1) = (b < j) := by rw [eq_iff_iff]; omega
      simp [h2, e]
  · simp [h]
theorem mk2_next (q : Int) (g : Nat → Nat → Value) (k a b : Nat) (hb : b < 2) : mk2 q g k 2 a b = mk2 q g (k + 1) 0 a b := by
  unfold mk2
  have e : (a < k ∨ a = k ∧ b < 2) = (a < k + 1 ∨ a = k + 1 ∧ b < 0) := by rw [eq_iff_iff]; omega
  simp only [e]
theorem markIntA2S_any (A : Option Addr) (n c lo : Nat) (g : Nat → Nat → Value) (w : World) (hO : Own w lo 2 A n g) (hn : n ≤ 1048576) (q : Int) (q0 : 0 ≤ q) (q1 : q ≤ 4000000000000) : Calls Try.prog 58 #[.slice A n c, .int .i64 q] w
    fun e w' => e = .returned (.int .i64 (q + n * 2)) ∧ Own w' lo 2 A n (fun i j => .int .i64 (q + i * 2 + j)) ∧ Kept w w' A n := by
  go_enter Try.func58, Try.ntmps58
  go_wp2
  go_loopw [1, 5] (fun v1 v5 wr => ∃ (k : Nat), k ≤ n ∧ v5 = .int .i64 k ∧ v1 = .int .i64 (q + k * 2) ∧ Own wr lo 2 A n (mk2 q g k 0) ∧ Kept w wr A n) (fun _ v5 _ => n - (intOf v5).toNat)
  case atStart => exact ⟨0, Nat.zero_le _, rfl, by simp, hO.congr (fun i j _ _ => by simp [mk2]), Kept.refl _ _ _⟩
  case round =>
    obtain ⟨k, hk, rfl, rfl, hR, hK⟩ := hrel
    have HR0 := Lib.hid hR
    have HK0 := Lib.hid hK
    clear hO hR hK
    by_cases hlt : k < n
    · obtain ⟨b, rfl⟩ := HR0.out.form (by omega)
      go_wp2
      go_loopw [1, 6] (fun v1 v6 wq => ∃ (j : Nat), j ≤ 2 ∧ v6 = .int .i64 j ∧ v1 = .int .i64 (q + k * 2 + j) ∧ Own wq lo 2 (some ⟨b, 0, none⟩) n (mk2 q g k j) ∧ Kept w wq (some ⟨b, 0, none⟩) n) (fun _ v6 _ => 2 - (intOf v6).toNat)
      case atStart => exact ⟨0, by omega, rfl, by simp, HR0.out, HK0.out⟩
      case round =>
        rename World => wq
        obtain ⟨j, hj, rfl, rfl, hR, hK⟩ := hrel
        obtain ⟨hbl, hfz⟩ := hR.free (by omega)
        have c0 := hR.at_ (i := k) (j := 0) hlt (by decide)
        have c1 := hR.at_ (i := k) (j := 1) hlt (by decide)
        simp only [Nat.add_zero] at c0
        have HR := Lib.hid hR
        have HK := Lib.hid hK
        clear hR hK
        obtain rfl | rfl | rfl : j = 0 ∨ j = 1 ∨ j = 2 := by omega
        · go_wp2
          go_roundw
          case rel => exact ⟨1, by omega, by go_num, by congr 1 <;> simp, Own.congr (HR.out.set0 (i := k) (by decide)) (fun a b' _ _ => by rw [← mk2_set]; simp), HK.out.setCell (by omega) _⟩
          case measure => simp [intOf]
        · go_wp2
          go_roundw
          case rel => exact ⟨2, by omega, by go_num, by congr 1 <;> simp <;> omega, Own.congr (HR.out.set (i := k) (j := 1) (by decide)) (fun a b' _ _ => mk2_set q g k 1 a b'), HK.out.setCell (by omega) _⟩
          case measure => simp [intOf]
        · clear c0 c1
          go_wp2
          go_roundw
          case rel => exact ⟨k + 1, by omega, by go_num, by congr 1 <;> simp <;> omega, HR.out.congr (fun a b' _ hb' => mk2_next q g k a b' hb'), HK.out⟩
          case measure => simp [intOf]; omega
    · obtain rfl : k = n := by omega
      go_wp2
      go_ret
      exact ⟨rfl, HR0.out.congr (fun i j hi _ => by simp [mk2, hi]), HK0.out⟩
theorem heldIntA2S_any (A : Option Addr) (n c : Nat) (w : World) (q : Int) (hO : Sl w 2 A n (fun i j => .int .i64 (q + i * 2 + j))) (hn : n ≤ 1048576) (q0 : 0 ≤ q) (q1 : q ≤ 4000000000000) : Calls Try.prog 59 #[.slice A n c, .int .i64 q] w
    fun e w' => e = .returned (.int .i64 (q + n * 2)) ∧ Below w.heap.size w w' := by
  go_enter Try.func59, Try.ntmps59
  go_wp2
  go_loopw [1, 5] (fun v1 v5 wr => ∃ (k : Nat), k ≤ n ∧ v5 = .int .i64 k ∧ v1 = .int .i64 (q + k * 2) ∧ Below w.heap.size w wr) (fun _ v5 _ => n - (intOf v5).toNat)
  case atStart => exact ⟨0, Nat.zero_le _, rfl, by simp, Below.refl _ _⟩
  case round =>
    obtain ⟨k, hk, rfl, rfl, hbr⟩ := hrel
    have HBR := Lib.hid hbr
    clear hbr
    by_cases hlt : k < n
    · obtain ⟨b, off, rfl, hbl, hc⟩ := hO (by omega)
      have HC0 : Hid (w.cell? ⟨b, off + k * 2, none⟩ = some (.int .i64 (q + k * 2))) := by show _ = _; simpa using hc k 0 hlt (by decide)
      have HC1 : Hid (w.cell? ⟨b, off + k * 2 + 1, none⟩ = some (.int .i64 (q + k * 2 + 1))) := by show _ = _; simpa using hc k 1 hlt (by decide)
      have HO := Lib.hid hO
      clear hO hc
      go_wp2
      go_loopw [1, 6] (fun v1 v6 wq => ∃ (j : Nat), j ≤ 2 ∧ v6 = .int .i64 j ∧ v1 = .int .i64 (q + k * 2 + j) ∧ Below w.heap.size w wq) (fun _ v6 _ => 2 - (intOf v6).toNat)
      case atStart => exact ⟨0, by omega, rfl, by simp, HBR.out⟩
      case round =>
        rename World => wq
        obtain ⟨j, hj, rfl, rfl, hbq⟩ := hrel
        have hzq := hbq.size
        have c0 := (hbq.cell (p := ⟨b, off + k * 2, none⟩) hbl).trans HC0.out
        have c1 := (hbq.cell (p := ⟨b, off + k * 2 + 1, none⟩) hbl).trans HC1.out
        obtain rfl | rfl | rfl : j = 0 ∨ j = 1 ∨ j = 2 := by omega
        · go_wp2
          go_roundw
          case rel => exact ⟨1, by omega, by go_num, by congr 1 <;> simp, by repeat' (first | (with_reducible exact Below.refl _ _) | (with_reducible assumption) | (with_reducible refine Below.alloc ?_ ?_ _) | (with_reducible refine Below.drew ?_) | (with_reducible refine Below.setCell ?_ ?_ _) | (with_reducible refine Below.stepB (by assumption) ?_ ?_) | go_size)⟩
          case measure => simp [intOf]
        · go_wp2
          go_roundw
          case rel => exact ⟨2, by omega, by go_num, by congr 1 <;> simp <;> omega, by repeat' (first | (with_reducible exact Below.refl _ _) | (with_reducible assumption) | (with_reducible refine Below.alloc ?_ ?_ _) | (with_reducible refine Below.drew ?_) | (with_reducible refine Below.setCell ?_ ?_ _) | (with_reducible refine Below.stepB (by assumption) ?_ ?_) | go_size)⟩
          case measure => simp [intOf]
        · clear c0 c1
          go_wp2
          go_roundw
          case rel => exact ⟨k + 1, by omega, by go_num, by congr 1 <;> simp <;> omega, by repeat' (first | (with_reducible exact Below.refl _ _) | (with_reducible assumption) | (with_reducible refine Below.alloc ?_ ?_ _) | (with_reducible refine Below.drew ?_) | (with_reducible refine Below.setCell ?_ ?_ _) | (with_reducible refine Below.stepB (by assumption) ?_ ?_) | go_size)⟩
          case measure => simp [intOf]; omega
    · obtain rfl : k = n := by omega
      go_wp2
      go_ret
      exact ⟨rfl, HBR.out⟩
end Go.Proofs.Ytfflbkmncnaffaa
