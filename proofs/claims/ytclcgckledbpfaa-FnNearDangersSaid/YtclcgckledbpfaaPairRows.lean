/- Lists whose elements are rows of two numbers, each in a block of its own: the law's helpers on them; append of one such row. -/
import Derived.Test.YtclcgckledbpfaaInts
import Derived.Test.YtclcgckledbpfaaStepApp
namespace Go.Proofs.Ytclcgckledbpfaa
open Go.RowKit
def rowC (B : Nat → Nat) (i _j : Nat) : Value := .slice (some ⟨B i, 0, none⟩) 2 2
def two (f : Nat → Int × Int) (i j : Nat) : Int := if j = 0 then (f i).1 else (f i).2
/-- a slice of rows of two reads as f -/
def SlR (w : World) (A : Option Addr) (n : Nat) (f : Nat → Int × Int) : Prop := ∃ B : Nat → Nat, Sl w 1 A n (rowC B) ∧ ∀ i, i < n → SlI w (some ⟨B i, 0, none⟩) 2 (two f i)
theorem SlR.below {w w' : World} {A : Option Addr} {n : Nat} {f : Nat → Int × Int} (h : SlR w A n f) (hb : Below w.heap.size w w') : SlR w' A n f := by
  obtain ⟨B, h1, h2⟩ := h
  exact ⟨B, h1.below hb, fun i hi => (h2 i hi).below hb⟩
theorem Own.same {w w' : World} {lo k n : Nat} {A : Option Addr} {g : Nat → Nat → Value} (h : Own w lo k A n g) (hb : ∀ b, A = some ⟨b, 0, none⟩ → b < w.heap.size → w'.heap[b]? = w.heap[b]?) : Own w' lo k A n g := fun hn => by
  obtain ⟨b, t, cs, hA, hl, hB, hs, hc⟩ := h hn
  exact ⟨b, t, cs, hA, hl, (hb b hA hB.lt).trans hB, hs, hc⟩
/-- the rows of one's own: from lo on, each another block -/
def OwnR (w : World) (lo : Nat) (A : Option Addr) (n : Nat) (f : Nat → Int × Int) : Prop :=
  0 < n → ∃ (b : Nat) (t : TypeId) (cs : Array Value) (B : Nat → Nat), A = some ⟨b, 0, none⟩ ∧ lo ≤ b ∧ Blk w b t cs ∧ (∀ i, i < n → cs[i]? = some (rowC B i 0)) ∧
    (∀ i, i < n → lo ≤ B i ∧ B i ≠ b ∧ OwnI w lo (some ⟨B i, 0, none⟩) 2 (two f i)) ∧ ∀ i j, i < n → j < n → B i = B j → i = j
theorem OwnR.under {w w' : World} {lo : Nat} {A : Option Addr} {n : Nat} {f : Nat → Int × Int} (h : OwnR w lo A n f) (hs : ∀ b, lo ≤ b → b < w.heap.size → w'.heap[b]? = w.heap[b]?) : OwnR w' lo A n f := fun hn => by
  obtain ⟨b, t, cs, B, h1, h2, h3, h4, h5, h6⟩ := h hn
  exact ⟨b, t, cs, B, h1, h2, (hs b h2 h3.lt).trans h3, h4, fun i hi => ⟨(h5 i hi).1, (h5 i hi).2.1, Own.same (h5 i hi).2.2 (fun g hg hl => by obtain rfl : B i = g := (by simpa using hg); exact hs _ (h5 i hi).1 hl)⟩, h6⟩
theorem OwnR.below {w w' : World} {lo : Nat} {A : Option Addr} {n : Nat} {f : Nat → Int × Int} (h : OwnR w lo A n f) (hb : Below w.heap.size w w') : OwnR w' lo A n f := h.under (fun b _ hl => hb.block b hl)
theorem OwnR.kept {w w' : World} {lo lo' hi' n' : Nat} {A A' : Option Addr} {n : Nat} {f : Nat → Int × Int} (h : OwnR w lo A n f) (hk : Kept w w' A' n') (hr : InR A' n' lo' hi') (hne : hi' ≤ lo) : OwnR w' lo A n f :=
  h.under (fun b hb hl => hk.block b hl (fun hn a ha => by have := hr hn a ha; omega))
theorem OwnR.more {w : World} {lo lo' : Nat} {A : Option Addr} {n : Nat} {f : Nat → Int × Int} (h : OwnR w lo A n f) (hl : lo' ≤ lo) : OwnR w lo' A n f := fun hn => by
  obtain ⟨b, t, cs, B, h1, h2, h3, h4, h5, h6⟩ := h hn
  exact ⟨b, t, cs, B, h1, by omega, h3, h4, fun i hi => ⟨by have := (h5 i hi).1; omega, (h5 i hi).2.1, (h5 i hi).2.2.more hl⟩, h6⟩
theorem OwnR.sl {w : World} {lo : Nat} {A : Option Addr} {n : Nat} {f : Nat → Int × Int} (h : OwnR w lo A n f) : SlR w A n f := by
  rcases Nat.eq_zero_or_pos n with rfl | hn
  · exact ⟨fun _ => 0, fun h => absurd h (by omega), fun i hi => absurd hi (by omega)⟩
  · obtain ⟨b, t, cs, B, h1, h2, h3, h4, h5, h6⟩ := h hn
    refine ⟨B, fun _ => ⟨b, 0, h1, h3.lt, fun i j hi hj => ?_⟩, fun i hi => (h5 i hi).2.2.sl⟩
    obtain rfl : j = 0 := by omega
    rw [h3.cell]
    simpa using h4 i hi
theorem SlR.at {w wr : World} {A : Option Addr} {n k : Nat} {f : Nat → Int × Int} (h : SlR w A n f) (hb : Below w.heap.size w wr) (hk : k < n) :
    ∃ b off B, A = some ⟨b, off, none⟩ ∧ b < w.heap.size ∧ b < wr.heap.size ∧ wr.cell? ⟨b, off + k, none⟩ = some (.slice (some ⟨B, 0, none⟩) 2 2) ∧ Hid (SlI wr (some ⟨B, 0, none⟩) 2 (two f k)) := by
  obtain ⟨B, h1, h2⟩ := h
  obtain ⟨b, off, hA, hbl, hc⟩ := h1 (by omega)
  have hz := hb.size
  refine ⟨b, off, B k, hA, hbl, by omega, ?_, (h2 k hk).below hb⟩
  have := (hb.cell (p := ⟨b, _, none⟩) hbl).trans (hc k 0 hk (by decide))
  simpa [rowC] using this
theorem eqIntSS_same (A A' : Option Addr) (n c c' : Nat) (f : Nat → Int × Int) (w : World) (hS : SlR w A n f) (hS' : SlR w A' n f) (hn : n ≤ 1048576) : Calls Try.prog 38 #[.slice A n c, .slice A' n c'] w
    fun e w' => e = .returned (.bool true) ∧ Below w.heap.size w w' := by
  go_enter Try.func38, Try.ntmps38
  go_wp2
  go_loopw [5] (fun v4 wr => ∃ (k : Nat), k ≤ n ∧ v4 = .int .i64 k ∧ Below w.heap.size w wr) (fun v4 _ => n - (intOf v4).toNat)
  case atStart => exact ⟨0, Nat.zero_le _, rfl, Below.refl _ _⟩
  case round =>
    obtain ⟨k, hk, rfl, hbr⟩ := hrel
    have hzr := hbr.size
    by_cases hlt : k < n
    · obtain ⟨b, off, B, rfl, hbl, hbl2, c0, hR⟩ := hS.at hbr hlt
      obtain ⟨b', off', B', rfl, hbl', hbl2', c0', hR'⟩ := hS'.at hbr hlt
      have HE := Lib.hid (fun (x : Later wr) => eqIntS_same (some ⟨B, 0, none⟩) (some ⟨B', 0, none⟩) 2 2 2 (two f k) x.w (Sl.below hR.out x.below) (Sl.below hR'.out x.below) (by decide))
      clear hS hS' hR hR'
      go_wp2
      refine wp_region_later (by kernel_rfl) (by kernel_rfl) (fun hlx => ?_)
      repeat (go_big_quiet_step ((go_at_call 27; exact Later.call (HE.out _))))
      refine wpQuiet_nil ?_
      clear hlx
      intro w1 hbw1
      obtain ⟨hzw1, hcw1, hfw1⟩ := bfacts hbw1; (try simp at hzw1 hcw1 hfw1); (try (have : w.heap.size < w1.heap.size := by omega)); (try (have : w.heap.size + 1 < w1.heap.size := by omega)); (try (have : w.heap.size + 1 + 1 < w1.heap.size := by omega)); (try (have : w.heap.size + 1 + 1 + 1 < w1.heap.size := by omega))
      go_wp2
      go_roundw
      case rel => exact ⟨k + 1, by omega, by go_num, by repeat' (first | (with_reducible exact Below.refl _ _) | (with_reducible assumption) | (with_reducible refine Below.alloc ?_ ?_ _) | (with_reducible refine Below.drew ?_) | (with_reducible refine Below.setCell ?_ ?_ _) | (with_reducible refine Below.stepB (by assumption) ?_ ?_) | go_size)⟩
      case measure => simp [intOf]; omega
    · obtain rfl : k = n := by omega
      clear hS hS'
      go_wp2
      go_ret
      exact ⟨rfl, hbr⟩
/-- what rows marked from q on hold -/
def mkR (q : Int) (i : Nat) : Int × Int := (q + i * 2, q + i * 2 + 1)
def mkTo (q : Int) (f : Nat → Int × Int) (k i : Nat) : Int × Int := if i < k then mkR q i else f i
theorem markIntSS_any (A : Option Addr) (n c lo : Nat) (f : Nat → Int × Int) (w : World) (hO : OwnR w lo A n f) (hn : n ≤ 1048576) (hlo : lo ≤ w.heap.size) (q : Int) (q0 : 0 ≤ q) (q1 : q ≤ 1000000) : Calls Try.prog 39 #[.slice A n c, .int .i64 q] w
    fun e w' => e = .returned (.int .i64 (q + n * 2)) ∧ OwnR w' lo A n (mkR q) ∧ Below lo w w' := by
  go_enter Try.func39, Try.ntmps39
  go_wp2
  go_loopw [1, 5] (fun v1 v5 wr => ∃ (k : Nat), k ≤ n ∧ v5 = .int .i64 k ∧ v1 = .int .i64 (q + k * 2) ∧ OwnR wr lo A n (mkTo q f k) ∧ Below lo w wr) (fun _ v5 _ => n - (intOf v5).toNat)
  case atStart => exact ⟨0, Nat.zero_le _, rfl, by simp, hO, Below.refl _ _⟩
  case round =>
    obtain ⟨k, hk, rfl, rfl, hR, hbr⟩ := hrel
    clear hO
    by_cases hlt : k < n
    · obtain ⟨b, t, cs, B, rfl, h2, h3, h4, h5, h6⟩ := hR (by omega)
      have hbl := h3.lt
      have c0 : wr.cell? ⟨b, k, none⟩ = some (.slice (some ⟨B k, 0, none⟩) 2 2) := (h3.cell k).trans (h4 k hlt)
      have HM := Lib.hid (markIntS_any (some ⟨B k, 0, none⟩) 2 2 lo (two (mkTo q f k) k) wr (h5 k hlt).2.2 (by decide) (q + k * 2) (by omega) (by omega))
      have HALL := Lib.hid (And.intro h2 (And.intro h3 (And.intro h4 (And.intro h5 h6))))
      clear hR h2 h3 h4 h5 h6
      go_wp2_with fail
      refine HM.out.mono ?_
      rintro e w1 ⟨rfl, hO2, hk2⟩
      have HO2 := Lib.hid hO2
      have HK2 := Lib.hid hk2
      clear hO2 hk2
      go_wp2
      go_roundw
      case rel =>
        obtain ⟨h2, h3, h4, h5, h6⟩ := HALL.out
        have hk2 := HK2.out
        have hfar : ∀ g, g < wr.heap.size → g ≠ B k → w1.heap[g]? = wr.heap[g]? := fun g hg hne => hk2.block g hg (fun _ a ha => by obtain rfl := Option.some.inj ha; exact hne)
        refine ⟨k + 1, by omega, by go_num, by congr 1; omega, fun _ => ⟨b, t, cs, B, rfl, h2, (hfar b hbl (fun h => (h5 k hlt).2.1 h.symm)).trans h3, h4, fun i hi => ⟨(h5 i hi).1, (h5 i hi).2.1, ?_⟩, h6⟩, hbr.trans (hk2.below (lo := lo) (hi := wr.heap.size) (h5 k hlt).2.2.range (Nat.le_refl _) (Nat.le_trans hlo hbr.size))⟩
        by_cases he : i = k
        · subst he
          refine Own.congr HO2.out (fun a j ha _ => ?_)
          have e : mkTo q f (i + 1) i = mkR q i := by unfold mkTo; rw [if_pos (by omega)]
          have : a = 0 ∨ a = 1 := by omega
          rcases this with rfl | rfl <;> simp [two, e, mkR]
        · have e : two (mkTo q f (k + 1)) i = two (mkTo q f k) i := by
            have hik : (i < k + 1) = (i < k) := by rw [eq_iff_iff]; omega
            funext a
            unfold two mkTo
            simp only [hik]
          rw [e]
          exact Own.same (h5 i hi).2.2 (fun g hg hl => hfar g hl (fun h => by obtain rfl : B i = g := (by simpa using hg); exact he (h6 i k hi hlt h)))
      case measure => simp [intOf]; omega
    · obtain rfl : k = n := by omega
      have HR := Lib.hid hR
      clear hR
      go_wp2
      go_ret
      exact ⟨rfl, fun hn0 => by
        obtain ⟨b, t, cs, B, h1, h2, h3, h4, h5, h6⟩ := HR.out hn0
        refine ⟨b, t, cs, B, h1, h2, h3, h4, fun i hi => ⟨(h5 i hi).1, (h5 i hi).2.1, ?_⟩, h6⟩
        have e : two (mkR q) i = two (mkTo q f k) i := by
          funext a
          unfold two mkTo
          simp only [if_pos hi]
        rw [e]
        exact (h5 i hi).2.2, hbr⟩
theorem heldIntSS_any (A : Option Addr) (n c : Nat) (w : World) (q : Int) (hO : SlR w A n (mkR q)) (hn : n ≤ 1048576) (q0 : 0 ≤ q) (q1 : q ≤ 1000000) : Calls Try.prog 40 #[.slice A n c, .int .i64 q] w
    fun e w' => e = .returned (.int .i64 (q + n * 2)) ∧ Below w.heap.size w w' := by
  go_enter Try.func40, Try.ntmps40
  go_wp2
  go_loopw [1, 5] (fun v1 v5 wr => ∃ (k : Nat), k ≤ n ∧ v5 = .int .i64 k ∧ v1 = .int .i64 (q + k * 2) ∧ Below w.heap.size w wr) (fun _ v5 _ => n - (intOf v5).toNat)
  case atStart => exact ⟨0, Nat.zero_le _, rfl, by simp, Below.refl _ _⟩
  case round =>
    obtain ⟨k, hk, rfl, rfl, hbr⟩ := hrel
    have hzr := hbr.size
    by_cases hlt : k < n
    · obtain ⟨b, off, B, rfl, hbl, hbl2, c0, hR⟩ := hO.at hbr hlt
      have hH := heldIntS_any (some ⟨B, 0, none⟩) 2 2 wr (q + k * 2) (by
        intro h0
        obtain ⟨g, o, h1, h2, h3⟩ := hR.out h0
        refine ⟨g, o, h1, h2, fun i j hi hj => ?_⟩
        rw [h3 i j hi hj]
        have : i = 0 ∨ i = 1 := by omega
        rcases this with rfl | rfl <;> simp [two, mkR]) (by decide) (by omega) (by omega)
      have HH := Lib.hid hH
      clear hO hR hH
      go_wp2_with fail
      refine HH.out.mono ?_
      rintro e w1 ⟨rfl, hbw1⟩
      go_wp2
      go_roundw
      case rel => exact ⟨k + 1, by omega, by go_num, by congr 1; omega, by repeat' (first | (with_reducible exact Below.refl _ _) | (with_reducible assumption) | (with_reducible refine Below.alloc ?_ ?_ _) | (with_reducible refine Below.drew ?_) | (with_reducible refine Below.setCell ?_ ?_ _) | (with_reducible refine Below.stepB (by assumption) ?_ ?_) | go_size)⟩
      case measure => simp [intOf]; omega
    · obtain rfl : k = n := by omega
      clear hO
      go_wp2
      go_ret
      exact ⟨rfl, hbr⟩
end Go.Proofs.Ytclcgckledbpfaa
