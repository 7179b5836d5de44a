/- Lists of strings are marked by the law; the marks are looked for. -/
import Derived.Test.YtfecepjdjikenaaStr
namespace Go.Proofs.Ytfecepjdjikenaa
open Go.RowKit
theorem dig_u8 (k : Nat) : IntKind.u8.wrap (48 + (k : Int) % 10) = 48 + (k : Int) % 10 := by
  simp [IntKind.wrap, IntKind.bits, IntKind.signed]
  omega
theorem ba_app' (a b : Array UInt8) : (⟨a⟩ : ByteArray) ++ ⟨b⟩ = ⟨a ++ b⟩ := by
  apply ByteArray.ext
  simp
theorem conv_one (x : UInt8) (W : World) (g : Nat) (hg : W.cell? ⟨g, 0, none⟩ = some (.int .u8 (x.toNat : Int))) : (convert 63 9 (.slice (some ⟨g, 0, none⟩) 1 1)).run Try.prog W = .ok (.string ⟨#[x]⟩) W :=
  run_convert_bytes_back W _ _ _ ⟨g, 0, none⟩ 1 [x] Try.underlying63 Try.underlying5 Try.underlying9 (fun j hj => by
    have hj : j < 1 := hj
    obtain rfl : j = 0 := by omega
    exact hg)
set_option maxRecDepth 100000 in
set_option maxHeartbeats 1000000 in
theorem markText_any (k : Nat) (w : World) (hk0 : 0 < k) (hk : k ≤ 1000000) : Calls Try.prog 83 #[.int .i64 k] w fun e w' => e = .returned (.string ⟨(mrkV k).toArray⟩) ∧ Below w.heap.size w w' := by
  go_enter Try.func83, Try.ntmps83
  go_wp2
  go_loopw [0, 3] (fun v0 v3 wr => ∃ q o g, v0 = .int .i64 (q : Nat) ∧ v3 = .string ⟨(o : List UInt8).toArray⟩ ∧ q ≤ g ∧ o.length + q ≤ k ∧ Hid (digA g q o = digA k k []) ∧ Below w.heap.size w wr) (fun v0 _ _ => (intOf v0).toNat)
  case atStart => exact ⟨k, [], k, rfl, rfl, Nat.le_refl _, by simp, rfl, by repeat' (first | (with_reducible exact Below.refl _ _) | (with_reducible assumption) | (with_reducible refine Below.alloc ?_ ?_ _) | (with_reducible refine Below.drew ?_) | (with_reducible refine Below.setCell ?_ ?_ _) | (with_reducible refine Below.stepB (by assumption) ?_ ?_) | go_size)⟩
  case round =>
    obtain ⟨q, o, g, rfl, rfl, hqg, hol, hD, hbr⟩ := hrel
    have hzr := hbr.size
    rcases Nat.eq_zero_or_pos q with rfl | hq
    · have n1 : ¬ 9223372036854775807 < o.length + 1 := by omega
      have HE : Hid (o = digA k k []) := by show _ = _; rw [← hD.out, digA_zero]
      go_wp2
      go_ret
      refine ⟨?_, hbr⟩
      have h := HE.out
      show Ending.returned (.string (⟨#[109]⟩ ++ ⟨o.toArray⟩)) = _
      rw [ba_app', h]
      simp [mrkV]
    · obtain ⟨g, rfl⟩ : ∃ g', g = g' + 1 := ⟨g - 1, by omega⟩
      obtain ⟨x, hx⟩ : ∃ x : UInt8, x = UInt8.ofNat (48 + q % 10) := ⟨_, rfl⟩
      have hx2 : (48 : Int) + (q : Int) % 10 = (x.toNat : Int) := by
        rw [hx, UInt8.toNat_ofNat']
        omega
      have HD2 := Lib.hid ((digA_step (f := g) hq o).symm.trans hD.out)
      rw [← hx] at HD2
      have n1 : ¬ 9223372036854775807 < o.length + 1 := by omega
      have hqz : (0 : Int) < (q : Int) := by omega
      have hco := conv_one x (wr.alloc (.cells #[.int .u8 (x.toNat : Int)] 5)) wr.heap.size (by simp)
      have HX := Lib.hid hx
      clear hx
      go_wp2
      go_roundw
      case rel => exact ⟨q / 10, x :: o, g, by simp, by simp [ba_app'], by omega, by simp; omega, HD2.out, by repeat' (first | (with_reducible exact Below.refl _ _) | (with_reducible assumption) | (with_reducible refine Below.alloc ?_ ?_ _) | (with_reducible refine Below.drew ?_) | (with_reducible refine Below.setCell ?_ ?_ _) | (with_reducible refine Below.stepB (by assumption) ?_ ?_) | go_size)⟩
      case measure => simp [intOf]; omega
theorem markStringS_any (A : Option Addr) (n c lo : Nat) (L : Nat → List UInt8) (w : World) (hO : OwnT w lo A n L) (hn : n ≤ 1000) (q : Nat) (q0 : 0 < q) (q1 : q ≤ 100000) : Calls Try.prog 45 #[.slice A n c, .int .i64 q] w
    fun e w' => e = .returned (.int .i64 ((q + n : Nat) : Int)) ∧ OwnT w' lo A n (fun i => mrkV (q + i)) ∧ Kept w w' A n := by
  go_enter Try.func45, Try.ntmps45
  go_wp2
  go_loopw [1, 5] (fun v1 v5 wr => ∃ (k : Nat), k ≤ n ∧ v5 = .int .i64 k ∧ v1 = .int .i64 ((q + k : Nat) : Int) ∧ Own wr lo 1 A n (fun i _ => .string ⟨(if i < k then mrkV (q + i) else L i).toArray⟩) ∧ Kept w wr A n) (fun _ v5 _ => n - (intOf v5).toNat)
  case atStart => exact ⟨0, Nat.zero_le _, rfl, by simp, hO.congr (fun i j _ _ => by simp), Kept.refl _ _ _⟩
  case round =>
    obtain ⟨k, hk, rfl, rfl, hR, hK⟩ := hrel
    clear hO
    by_cases hlt : k < n
    · obtain ⟨b, rfl⟩ := hR.form (by omega)
      have HR := Lib.hid hR
      have HM := Lib.hid (fun W => markText_any (q + k) W (by omega) (by omega))
      have HK := Lib.hid hK
      clear hR hK
      go_wp2_with fail
      refine (HM.out _).mono ?_
      rintro e w3 ⟨rfl, hbw3⟩
      have HR3 := Lib.hid (HR.out.below hbw3)
      have c0 := HR3.out.at_ (i := k) (j := 0) hlt (by decide)
      obtain ⟨hbl, hfz⟩ := HR3.out.free (by omega)
      have HK3 := Lib.hid (show Kept w w3 (some ⟨b, 0, none⟩) n from ⟨hbw3.os.trans HK.out.os, hbw3.tape.trans HK.out.tape, hbw3.output.trans HK.out.output, Nat.le_trans HK.out.size hbw3.size, fun p hp hne => (hbw3.block p (Nat.lt_of_lt_of_le hp HK.out.size)).trans (HK.out.block p hp hne)⟩)
      simp at c0
      generalize hmk : mrkV (q + k) = mk at c0
      have HMK := Lib.hid hmk
      clear hmk
      go_wp2
      go_roundw
      case rel =>
        refine ⟨k + 1, by omega, by go_num, by congr 1, ?_, HK3.out.setCell (by omega) _⟩
        have h2 := (HR3.out.set (i := k) (j := 0) (u := .string ⟨mk.toArray⟩) (by decide))
        simp only [Nat.mul_one, Nat.add_zero] at h2
        refine h2.congr (fun i j hi hj => ?_)
        obtain rfl : j = 0 := by omega
        by_cases h1 : i = k
        · subst h1; simp [HMK.out]
        · simp [h1, show (i < k + 1) = (i < k) from by rw [eq_iff_iff]; omega]
      case measure => simp [intOf]; omega
    · obtain rfl : k = n := by omega
      have HR := Lib.hid hR
      clear hR
      go_wp2
      go_ret
      exact ⟨rfl, HR.out.congr (fun i j hi _ => by simp [hi]), hK⟩
theorem heldStringS_any (A : Option Addr) (n c : Nat) (w : World) (q : Nat) (hO : SlT w A n (fun i => mrkV (q + i))) (hn : n ≤ 1000) (q0 : 0 < q) (q1 : q ≤ 100000) : Calls Try.prog 46 #[.slice A n c, .int .i64 q] w
    fun e w' => e = .returned (.int .i64 ((q + n : Nat) : Int)) ∧ Below w.heap.size w w' := by
  have HO := Lib.hid hO
  clear hO
  go_enter Try.func46, Try.ntmps46
  go_wp2
  go_loopw [1, 5] (fun v1 v5 wr => ∃ (k : Nat), k ≤ n ∧ v5 = .int .i64 k ∧ v1 = .int .i64 ((q + k : Nat) : Int) ∧ Below w.heap.size w wr) (fun _ v5 _ => n - (intOf v5).toNat)
  case atStart => exact ⟨0, Nat.zero_le _, rfl, by simp, Below.refl _ _⟩
  case round =>
    obtain ⟨k, hk, rfl, rfl, hbr⟩ := hrel
    have hzr := hbr.size
    by_cases hlt : k < n
    · obtain ⟨b, off, rfl, hbl, hbl2, c0⟩ := HO.out.at hbr hlt
      have hM := fun W => markText_any (q + k) W (by omega) (by omega)
      generalize mrkV (q + k) = mk at c0 hM
      have HM := Lib.hid hM
      clear hM
      go_wp2
      refine wp_region_later (by kernel_rfl) (by kernel_rfl) (fun hlx => ?_)
      repeat (go_big_quiet_step ((go_at_call 83; exact Later.call (HM.out _))))
      refine wpQuiet_nil ?_
      clear hlx
      intro w1 hbw1
      obtain ⟨hzw1, hcw1, hfw1⟩ := bfacts hbw1; (try simp at hzw1 hcw1 hfw1); (try (have : w.heap.size < w1.heap.size := by omega)); (try (have : w.heap.size + 1 < w1.heap.size := by omega)); (try (have : w.heap.size + 1 + 1 < w1.heap.size := by omega)); (try (have : w.heap.size + 1 + 1 + 1 < w1.heap.size := by omega))
      go_wp2
      go_roundw
      case rel => exact ⟨k + 1, by omega, by go_num, by congr 1, by repeat' (first | (with_reducible exact Below.refl _ _) | (with_reducible assumption) | (with_reducible refine Below.alloc ?_ ?_ _) | (with_reducible refine Below.drew ?_) | (with_reducible refine Below.setCell ?_ ?_ _) | (with_reducible refine Below.stepB (by assumption) ?_ ?_) | go_size)⟩
      case measure => simp [intOf]; omega
    · obtain rfl : k = n := by omega
      go_wp2
      go_ret
      exact ⟨rfl, hbr⟩
end Go.Proofs.Ytfecepjdjikenaa
