/- Lists of strings: equality, marks; one string appended to a row of the call's own. -/
import Derived.Test.YtfecepjdjikenaaInts
namespace Go.Proofs.Ytfecepjdjikenaa
open Go.RowKit
/-- a string of bytes -/
def strV (s : List UInt8) : Value := .string ⟨s.toArray⟩
/-- a slice of strings reads as L -/
def SlT (w : World) (A : Option Addr) (n : Nat) (L : Nat → List UInt8) : Prop := Sl w 1 A n (fun i _ => .string ⟨(L i).toArray⟩)
def OwnT (w : World) (lo : Nat) (A : Option Addr) (n : Nat) (L : Nat → List UInt8) : Prop := Own w lo 1 A n (fun i _ => .string ⟨(L i).toArray⟩)
theorem OwnT.sl {w : World} {lo n : Nat} {A : Option Addr} {L : Nat → List UInt8} (h : OwnT w lo A n L) : SlT w A n L := Own.sl h
theorem SlT.at {w wr : World} {A : Option Addr} {n k : Nat} {L : Nat → List UInt8} (hS : SlT w A n L) (hb : Below w.heap.size w wr) (hk : k < n) : ∃ b off, A = some ⟨b, off, none⟩ ∧ b < w.heap.size ∧ b < wr.heap.size ∧
    wr.cell? ⟨b, off + k, none⟩ = some (.string ⟨(L k).toArray⟩) := by
  obtain ⟨b, off, hA, hbl, hc⟩ := hS (by omega)
  have hz := hb.size
  refine ⟨b, off, hA, hbl, by omega, (hb.cell (p := ⟨b, _, none⟩) hbl).trans ?_⟩
  have := hc k 0 hk (by decide)
  simpa using this
theorem eqStringS_same (A A' : Option Addr) (n c c' : Nat) (L : Nat → List UInt8) (w : World) (hS : SlT w A n L) (hS' : SlT w A' n L) (hn : n ≤ 1048576) : Calls Try.prog 44 #[.slice A n c, .slice A' n c'] w
    fun e w' => e = .returned (.bool true) ∧ Below w.heap.size w w' := by
  go_enter Try.func44, Try.ntmps44
  go_wp2
  go_loopw [5] (fun v4 wr => ∃ (k : Nat), k ≤ n ∧ v4 = .int .i64 k ∧ Below w.heap.size w wr) (fun v4 _ => n - (intOf v4).toNat)
  case atStart => exact ⟨0, Nat.zero_le _, rfl, Below.refl _ _⟩
  case round =>
    obtain ⟨k, hk, rfl, hbr⟩ := hrel
    have hzr := hbr.size
    by_cases hlt : k < n
    · obtain ⟨b, off, rfl, hbl, hbl2, c0⟩ := hS.at hbr hlt
      obtain ⟨b', off', rfl, hbl', hbl2', c0'⟩ := hS'.at hbr hlt
      clear hS hS'
      go_wp2
      refine wp_region_later (by kernel_rfl) (by kernel_rfl) (fun hlx => ?_)
      repeat (go_big_quiet_step (fail))
      refine wpQuiet_nil ?_
      clear hlx
      intro w1 hbw1
      obtain ⟨hzw1, hcw1, hfw1⟩ := bfacts hbw1; (try simp at hzw1 hcw1 hfw1); (try (have : w.heap.size < w1.heap.size := by omega)); (try (have : w.heap.size + 1 < w1.heap.size := by omega)); (try (have : w.heap.size + 1 + 1 < w1.heap.size := by omega)); (try (have : w.heap.size + 1 + 1 + 1 < w1.heap.size := by omega))
      go_wp2
      go_roundw
      case rel => exact ⟨k + 1, by omega, by go_num, by repeat' (first | (with_reducible exact Below.refl _ _) | (with_reducible assumption) | (with_reducible refine Below.alloc ?_ ?_ _) | (with_reducible refine Below.drew ?_) | (with_reducible refine Below.setCell ?_ ?_ _) | (with_reducible refine Below.stepB (by assumption) ?_ ?_) | go_size)⟩
      case measure => simp [intOf]; omega
    · obtain rfl : k = n := by omega
      clear hS hS'
      go_wp2
      go_ret
      exact ⟨rfl, hbr⟩
/-- the digits of a number, before what is there -/
def digA : Nat → Nat → List UInt8 → List UInt8
  | 0, _, o => o
  | f + 1, k, o => if k = 0 then o else digA f (k / 10) (UInt8.ofNat (48 + k % 10) :: o)
theorem digA_zero (f : Nat) (o : List UInt8) : digA f 0 o = o := by cases f <;> simp [digA]
theorem digA_step {f k : Nat} (hk : 0 < k) (o : List UInt8) : digA (f + 1) k o = digA f (k / 10) (UInt8.ofNat (48 + k % 10) :: o) := by rw [digA, if_neg (by omega)]
/-- the mark of a number -/
def mrkV (k : Nat) : List UInt8 := 109 :: digA k k []
end Go.Proofs.Ytfecepjdjikenaa
