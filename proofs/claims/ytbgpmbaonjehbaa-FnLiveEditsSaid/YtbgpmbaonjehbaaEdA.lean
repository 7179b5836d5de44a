/- Contracts: words; steps of an edit list as they lie in memory. -/
import Derived.Test.YtbgpmbaonjehbaaEdP
import Derived.Test.YtbgpmbaonjehbaaInts
namespace Go.Proofs.Ytbgpmbaonjehbaa
open Go.RowKit
def ES.cell (s : ES) : Nat → Value
  | 0 => .int .i64 s.kind
  | 1 => .int .i64 s.mark
  | 2 => .int .i64 s.by_
  | _ => .string ⟨s.reason.toArray⟩
def SlES (w : World) (A : Option Addr) (n : Nat) (f : Nat → ES) : Prop := Sl w 4 A n (fun i j => (f i).cell j)
theorem SlES.at {w wr : World} {A : Option Addr} {n k : Nat} {f : Nat → ES} (hS : SlES w A n f) (hb : Below w.heap.size w wr) (hk : k < n) : ∃ b off, A = some ⟨b, off, none⟩ ∧ b < w.heap.size ∧ b < wr.heap.size ∧
    wr.cell? ⟨b, off + k * 4, none⟩ = some (.int .i64 (f k).kind) ∧ wr.cell? ⟨b, off + k * 4 + 1, none⟩ = some (.int .i64 (f k).mark) ∧ wr.cell? ⟨b, off + k * 4 + 2, none⟩ = some (.int .i64 (f k).by_) ∧ wr.cell? ⟨b, off + k * 4 + 3, none⟩ = some (.string ⟨(f k).reason.toArray⟩) := by
  obtain ⟨b, off, hA, hbl, hc⟩ := hS (by omega)
  have hz := hb.size
  exact ⟨b, off, hA, hbl, by omega, (hb.cell (p := ⟨b, _, none⟩) hbl).trans (hc k 0 hk (by decide)), (hb.cell (p := ⟨b, _, none⟩) hbl).trans (hc k 1 hk (by decide)), (hb.cell (p := ⟨b, _, none⟩) hbl).trans (hc k 2 hk (by decide)), (hb.cell (p := ⟨b, _, none⟩) hbl).trans (hc k 3 hk (by decide))⟩
theorem es_info : (Try.prog.info? 26).map (fun i => (i.zero, i.size, i.bytes)) = some (some (.agg #[.int .i64 0, .int .i64 0, .int .i64 0, .string ⟨#[]⟩]), 4, 40) := by kernel_rfl
theorem es_one (f : Nat → ES) (i j : Nat) : ((f i).cell j).oneCell' = true := by
  match j with
  | 0 => rfl
  | 1 => rfl
  | 2 => rfl
  | j + 3 => rfl
theorem es_box {w : World} {g : Nat} {t : TypeId} {s : ES} (h : Blk w g t #[.int .i64 s.kind, .int .i64 s.mark, .int .i64 s.by_, .string ⟨s.reason.toArray⟩]) : ∀ i j, i < 1 → j < 4 → w.cell? ⟨g, 0 + i * 4 + j, none⟩ = some (s.cell j) := fun i j hi hj => by
  obtain rfl : i = 0 := by omega
  have : j = 0 ∨ j = 1 ∨ j = 2 ∨ j = 3 := by omega
  rcases this with rfl | rfl | rfl | rfl
  · exact h.cell 0
  · exact h.cell 1
  · exact h.cell 2
  · exact h.cell 3
def lowB (c : UInt8) : Bool := decide (97 ≤ c.toNat) && decide (c.toNat ≤ 122)
theorem wordB_eq (s : List UInt8) : wordB s = (s.all lowB && (decide (1 ≤ s.length) && decide (s.length ≤ 10))) := rfl
theorem word_no {s : List UInt8} {k : Nat} (hk : k < s.length) (h : lowB (s.getD k 0) = false) : wordB s = false := by
  rw [wordB_eq]
  have : s.all lowB = false := by
    rw [← Bool.not_eq_true, List.all_eq_true]
    intro ha
    have := ha (s.getD k 0) (by simp [List.getD, hk])
    rw [h] at this
    cases this
  rw [this]
  rfl
theorem word_end {s : List UInt8} (h : ∀ j, j < s.length → lowB (s.getD j 0) = true) : wordB s = inB s.length 1 10 := by
  rw [wordB_eq]
  have : s.all lowB = true := by
    rw [List.all_eq_true]
    intro c hc
    obtain ⟨j, hj, rfl⟩ := List.mem_iff_getElem.1 hc
    have := h j hj
    simpa [List.getD, hj] using this
  rw [this, Bool.eq_iff_iff]
  simp [inB]
  omega
theorem byte_run (s : List UInt8) (k : Nat) (hk : k < s.length) (W : World) : (Instr.index 9 (.string ⟨s.toArray⟩) (.int .i64 (k : Int))).run Try.prog W = .ok (.int .u8 (s.getD k 0).toNat) W := by
  rw [run_index_string W 9 _ .i64 _ Try.underlying9]
  have hs : (⟨s.toArray⟩ : ByteArray).size = s.length := by simp [ByteArray.size]
  rw [dif_pos (by rw [hs]; omega)]
  congr 3
  simp [List.getD, hk, ByteArray.getElem_eq_getElem_data]
theorem isWord_any (s : List UInt8) (w : World) (hs : s.length ≤ 100) : Calls Try.prog 60 #[.string ⟨s.toArray⟩] w fun e w' => e = .returned (.bool (wordB s)) ∧ w = w' := by
  go_enter Try.func60, Try.ntmps60
  go_wp2
  go_loopw [3] (fun v5 wr => ∃ k : Nat, k ≤ s.length ∧ v5 = .int .i64 k ∧ Hid (∀ j, j < k → lowB (s.getD j 0) = true) ∧ w = wr) (fun v5 _ => s.length - (intOf v5).toNat)
  case atStart => exact ⟨0, Nat.zero_le _, rfl, fun j hj => absurd hj (Nat.not_lt_zero _), rfl⟩
  case round =>
    obtain ⟨k, hk, rfl, hall, rfl⟩ := hrel
    by_cases hlt : k < s.length
    · have hb := fun W => byte_run s k hlt W
      rcases Bool.eq_false_or_eq_true (lowB (s.getD k 0)) with h | h
      · have HA : Hid (∀ j, j < k + 1 → lowB (s.getD j 0) = true) := fun j hj => by
          rcases Nat.lt_or_ge j k with h1 | h1
          · exact hall.out j h1
          · obtain rfl : j = k := by omega
            exact h
        generalize s.getD k 0 = c at hb h
        have h' : (97 : Int) ≤ c.toNat ∧ (c.toNat : Int) ≤ 122 := by simp [lowB] at h; omega
        obtain ⟨h1, h2⟩ := h'
        clear h
        go_wp2
        go_roundw
        case rel => exact ⟨k + 1, by omega, by go_num, HA, by trivial⟩
        case measure => simp [intOf]; omega
      · have HW := Lib.hid (word_no hlt h)
        generalize s.getD k 0 = c at hb h
        have h' : (c.toNat : Int) < 97 ∨ 122 < (c.toNat : Int) := by simp [lowB] at h; omega
        clear h
        rcases h' with h1 | h1
        all_goals
          go_wp2
          go_ret
          exact ⟨ret_bool HW.out.symm, rfl⟩
    · obtain rfl : k = s.length := by omega
      have HW := Lib.hid (word_end hall.out)
      clear hall
      go_wp2_with (go_at_call 44; refine (inside_any _ _ _ _).mono ?_; rintro e w' ⟨rfl, rfl⟩)
      go_ret
      exact ⟨ret_bool HW.out.symm, rfl⟩
theorem l2Word_any (s : List UInt8) (w : World) (hs : s.length ≤ 100) : Calls Try.prog 59 #[.string ⟨s.toArray⟩] w fun e w' => e = .returned (.bool (wordB s)) ∧ w = w' := by
  go_enter Try.func59, Try.ntmps59
  go_wp2
  go_loopw [3] (fun v5 wr => ∃ k : Nat, k ≤ s.length ∧ v5 = .int .i64 k ∧ Hid (∀ j, j < k → lowB (s.getD j 0) = true) ∧ w = wr) (fun v5 _ => s.length - (intOf v5).toNat)
  case atStart => exact ⟨0, Nat.zero_le _, rfl, fun j hj => absurd hj (Nat.not_lt_zero _), rfl⟩
  case round =>
    obtain ⟨k, hk, rfl, hall, rfl⟩ := hrel
    by_cases hlt : k < s.length
    · have hb := fun W => byte_run s k hlt W
      rcases Bool.eq_false_or_eq_true (lowB (s.getD k 0)) with h | h
      · have HA : Hid (∀ j, j < k + 1 → lowB (s.getD j 0) = true) := fun j hj => by
          rcases Nat.lt_or_ge j k with h1 | h1
          · exact hall.out j h1
          · obtain rfl : j = k := by omega
            exact h
        generalize s.getD k 0 = c at hb h
        have h' : (97 : Int) ≤ c.toNat ∧ (c.toNat : Int) ≤ 122 := by simp [lowB] at h; omega
        obtain ⟨h1, h2⟩ := h'
        clear h
        go_wp2
        go_roundw
        case rel => exact ⟨k + 1, by omega, by go_num, HA, by trivial⟩
        case measure => simp [intOf]; omega
      · have HW := Lib.hid (word_no hlt h)
        generalize s.getD k 0 = c at hb h
        have h' : (c.toNat : Int) < 97 ∨ 122 < (c.toNat : Int) := by simp [lowB] at h; omega
        clear h
        rcases h' with h1 | h1
        all_goals
          go_wp2
          go_ret
          exact ⟨ret_bool HW.out.symm, rfl⟩
    · obtain rfl : k = s.length := by omega
      have HW := Lib.hid (word_end hall.out)
      clear hall
      go_wp2_with (go_at_call 47; refine (l1In_any _ _ _ _).mono ?_; rintro e w' ⟨rfl, rfl⟩)
      go_ret
      exact ⟨ret_bool HW.out.symm, rfl⟩
end Go.Proofs.Ytbgpmbaonjehbaa
