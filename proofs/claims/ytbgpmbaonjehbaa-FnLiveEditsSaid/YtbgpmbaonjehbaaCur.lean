/- Contracts: the cursor's draws: it writes its own block alone. -/
import Derived.Test.YtbgpmbaonjehbaaInts
import Derived.Test.YtbgpmbaonjehbaaStill
namespace Go.Proofs.Ytbgpmbaonjehbaa
open Go.RowKit
/-- a cursor in block b over a code: it has been moved at most K times -/
def CurS (w : World) (b : Nat) (A : Option Addr) (n c K : Nat) : Prop := ∃ (k : Nat) (s : Int) (B : Nat → Int), k ≤ K ∧ Blk w b 56 #[.slice A n c, .int .i64 k, .int .u64 s] ∧ (∀ i, 0 ≤ B i ∧ B i ≤ 255) ∧ Sl w 1 A n (fun i _ => .int .u8 (B i)) ∧ (0 < n → ∀ a, A = some a → a.block < b)
/-- behind a draw: the cursor's block alone was written -/
def Drew (w : World) (b : Nat) (A : Option Addr) (n c K : Nat) (w' : World) : Prop := CurS w' b A n c K ∧ Kept w w' (some ⟨b, 0, none⟩) 1
theorem CurS.more {w : World} {b : Nat} {A : Option Addr} {n c K K' : Nat} (h : CurS w b A n c K) (hK : K ≤ K') : CurS w b A n c K' := by
  obtain ⟨k, s, B, h1, h2⟩ := h
  exact ⟨k, s, B, by omega, h2⟩
theorem CurS.lt {w : World} {b : Nat} {A : Option Addr} {n c K : Nat} (h : CurS w b A n c K) : b < w.heap.size := by
  obtain ⟨k, s, B, _, h2, _⟩ := h
  exact h2.lt
theorem CurS.below {w w' : World} {b : Nat} {A : Option Addr} {n c K : Nat} (h : CurS w b A n c K) (hb : Below w.heap.size w w') : CurS w' b A n c K := by
  obtain ⟨k, s, B, h1, h2, h3, h4, h5⟩ := h
  exact ⟨k, s, B, h1, h2.below hb h2.lt, h3, h4.below hb, h5⟩
theorem CurS.belowB {w w' : World} {b B : Nat} {A : Option Addr} {n c K : Nat} (h : CurS w b A n c K) (hb : Below B w w') (hB : b < B) : CurS w' b A n c K := by
  obtain ⟨k, s, G, h1, h2, h3, h4, h5⟩ := h
  refine ⟨k, s, G, h1, h2.below hb hB, h3, fun hn => ?_, h5⟩
  obtain ⟨p, off, hA, hl, hc⟩ := h4 hn
  have hp := h5 hn _ hA
  simp only at hp
  have := hb.size
  exact ⟨p, off, hA, by omega, fun i j hi hj => (hb.cell (p := ⟨p, _, none⟩) (by show p < B; omega)).trans (hc i j hi hj)⟩
theorem Kept.onB {w w1 w2 : World} {A : Option Addr} {n : Nat} (h : Kept w w1 A n) (hb : Below w.heap.size w1 w2) : Kept w w2 A n :=
  ⟨hb.os.trans h.os, hb.tape.trans h.tape, hb.output.trans h.output, Nat.le_trans h.size hb.size, fun q hq hne => (hb.block q hq).trans (h.block q hq hne)⟩
theorem Kept.trans1 {w w1 w2 : World} {A : Option Addr} {n : Nat} (h : Kept w w1 A n) (h2 : Kept w1 w2 A n) : Kept w w2 A n :=
  ⟨h2.os.trans h.os, h2.tape.trans h.tape, h2.output.trans h.output, Nat.le_trans h.size h2.size, fun q hq hne => (h2.block q (Nat.lt_of_lt_of_le hq h.size) hne).trans (h.block q hq hne)⟩
theorem Blk.keptC {w w' : World} {b q : Nat} {t : TypeId} {cs : Array Value} (h : Blk w q t cs) (hk : Kept w w' (some ⟨b, 0, none⟩) 1) (hne : q ≠ b) : Blk w' q t cs :=
  (hk.block q h.lt (fun _ a ha => by obtain rfl := Option.some.inj ha; exact hne)).trans h
theorem Sl.keptC {w w' : World} {b k n : Nat} {A : Option Addr} {g : Nat → Nat → Value} (h : Sl w k A n g) (hk : Kept w w' (some ⟨b, 0, none⟩) 1) (hne : 0 < n → ∀ a, A = some a → a.block ≠ b) : Sl w' k A n g := fun hn => by
  obtain ⟨p, off, hA, hl, hc⟩ := h hn
  have hb := hk.block p hl (fun _ a ha => by obtain rfl := Option.some.inj ha; exact hne hn _ hA)
  have := hk.size
  exact ⟨p, off, hA, by omega, fun i j hi hj => (World.cell?_of_block (w := w) hb).trans (hc i j hi hj)⟩
theorem ownsRow_keptC {w w' : World} {b base : Nat} {e : TypeId} {k n : Nat} {v : Value} {xs : List Value} (h : w.ownsRow base e k v n xs) (hk : Kept w w' (some ⟨b, 0, none⟩) 1) (hb : b < base) : w'.ownsRow base e k v n xs := by
  obtain ⟨h1, h2⟩ := h
  refine ⟨h1, ?_⟩
  rcases h2 with h2 | ⟨g, cap, cur, rfl, p, q, d⟩
  · exact .inl h2
  · exact .inr ⟨g, cap, cur, rfl, p, (hk.block g (Array.getElem?_eq_some_iff.1 q).1 (fun _ a ha => by obtain rfl := Option.some.inj ha; show g ≠ b; omega)).trans q, d⟩
theorem blk_newC {g : Nat} {t : TypeId} {cs : Array Value} (w : World) (hg : g = w.heap.size) : Blk (w.alloc (.cells cs t)) g t cs := by
  subst hg
  exact Blk.new w t cs
theorem Kept.lowB {w w' : World} {b B : Nat} (h : Kept w w' (some ⟨b, 0, none⟩) 1) (hB : B ≤ b) (hs : B ≤ w.heap.size) : Below B w w' :=
  h.below (lo := b) (hi := b + 1) (fun _ a ha => by obtain rfl := Option.some.inj ha; exact ⟨Nat.le_refl _, Nat.lt_succ_self _⟩) hB hs
theorem Own.keptC {w w' : World} {b lo k n : Nat} {A : Option Addr} {g : Nat → Nat → Value} (h : Own w lo k A n g) (hk : Kept w w' (some ⟨b, 0, none⟩) 1) (hb : b < lo) : Own w' lo k A n g := fun hn => by
  obtain ⟨p, t, cs, hA, hl, hB, hs, hc⟩ := h hn
  exact ⟨p, t, cs, hA, hl, hB.keptC hk (by omega), hs, hc⟩
/-- a new cursor over a code -/
theorem curS_new {w W : World} {b : Nat} {A : Option Addr} {n c : Nat} {B : Nat → Int} (hB : Blk W b 56 #[.slice A n c, .int .i64 0, .int .u64 0]) (hR : ∀ i, 0 ≤ B i ∧ B i ≤ 255) (hS : Sl w 1 A n (fun i _ => .int .u8 (B i))) (hb : Below w.heap.size w W) (hbw : w.heap.size ≤ b) : CurS W b A n c 0 :=
  ⟨0, 0, B, Nat.le_refl _, hB, hR, hS.below hb, fun h0 a ha => by
    obtain ⟨p, off, hA, hl, _⟩ := hS h0
    rw [hA] at ha
    obtain rfl := Option.some.inj ha
    show p < b
    omega⟩
theorem low8 (z : Int) (h0 : 0 ≤ z) (h1 : z < 18446744073709551616) : bits .and .u64 z 255 = z % 256 := by go_bits2
theorem u64_bd (y : Int) : 0 ≤ IntKind.u64.wrap y ∧ IntKind.u64.wrap y < 18446744073709551616 := by
  simp [IntKind.wrap, IntKind.bits, IntKind.signed]
  omega
theorem shr40 (y : Int) : 0 ≤ bits BinOp.and IntKind.u64 (IntKind.u64.wrap y / 1099511627776) 255 ∧ bits BinOp.and IntKind.u64 (IntKind.u64.wrap y / 1099511627776) 255 ≤ 255 := by
  obtain ⟨h1, h2⟩ := u64_bd y
  rw [low8 _ (by omega) (by omega)]
  omega
theorem w64_small {z : Int} (h : 0 ≤ z ∧ z ≤ 255) : wrap64 z = z := i64_id (by omega) (by omega)
set_option maxHeartbeats 1000000 in
theorem next_any (b : Nat) (A : Option Addr) (n c K : Nat) (w : World) (h : CurS w b A n c K) (hK : K ≤ 1000000) (hn : n ≤ 9223372036854775807) :
    Calls Try.prog 58 #[.pointer (some ⟨b, 0, none⟩)] w fun e w' => ∃ x : Int, e = .returned (.int .i64 x) ∧ 0 ≤ x ∧ x ≤ 255 ∧ Drew w b A n c (K + 1) w' := by
  obtain ⟨k, s, B, hk, hB, hR, hS, hA⟩ := h
  have c0 : w.cell? ⟨b, 0, none⟩ = some (.slice A n c) := hB.cell 0
  have c1 : w.cell? ⟨b, 1, none⟩ = some (.int .i64 k) := hB.cell 1
  have c2 : w.cell? ⟨b, 2, none⟩ = some (.int .u64 s) := hB.cell 2
  have hbl := hB.lt
  have hfz := hB.frozen
  have HB := Lib.hid hB
  have HS := Lib.hid hS
  have HR := Lib.hid hR
  have HA := Lib.hid hA
  clear hB hS hR hA
  go_enter Try.func58, Try.ntmps58
  by_cases hlt : k < n
  · obtain ⟨p, off, rfl, hpl, hc⟩ := HS.out (by omega)
    have y0 := hc k 0 hlt (by decide)
    rw [show off + k * 1 + 0 = off + k by omega] at y0
    have hne : p ≠ b := by have := HA.out (by omega) _ rfl; simp at this; omega
    obtain ⟨r1, r2⟩ := HR.out k
    clear hc
    go_wp2
    refine wp_region_later (by kernel_rfl) (by kernel_rfl) (fun hlx => ?_)
    repeat (go_big_quiet_step (fail))
    refine wpQuiet_nil ?_
    clear hlx
    intro w1 hbw1
    obtain ⟨hzw1, hcw1, hfw1⟩ := bfacts hbw1; (try simp at hzw1 hcw1 hfw1); (try (have : w.heap.size < w1.heap.size := by omega)); (try (have : w.heap.size + 1 < w1.heap.size := by omega)); (try (have : w.heap.size + 1 + 1 < w1.heap.size := by omega)); (try (have : w.heap.size + 1 + 1 + 1 < w1.heap.size := by omega))
    have hpl1 : p < w1.heap.size := by omega
    have hbl1 : b < w1.heap.size := by omega
    go_wp2
    refine wp_region_later (by kernel_rfl) (by kernel_rfl) (fun hlx => ?_)
    repeat (go_big_quiet_step (fail))
    refine wpQuiet_nil ?_
    clear hlx
    intro w2 hbw2
    obtain ⟨hzw2, hcw2, hfw2⟩ := bfacts hbw2; (try simp at hzw2 hcw2 hfw2); (try (have : w.heap.size < w2.heap.size := by omega)); (try (have : w.heap.size + 1 < w2.heap.size := by omega)); (try (have : w.heap.size + 1 + 1 < w2.heap.size := by omega)); (try (have : w.heap.size + 1 + 1 + 1 < w2.heap.size := by omega))
    have HBW := Lib.hid (show Below w.heap.size w w2 from by repeat' (first | (with_reducible exact Below.refl _ _) | (with_reducible assumption) | (with_reducible refine Below.alloc ?_ ?_ _) | (with_reducible refine Below.drew ?_) | (with_reducible refine Below.setCell ?_ ?_ _) | (with_reducible refine Below.stepB (by assumption) ?_ ?_) | go_size))
    have HB2 := Lib.hid (HB.out.below HBW.out hbl)
    have d0 : w2.cell? ⟨b, 0, none⟩ = some _ := HB2.out.cell 0
    have d1 : w2.cell? ⟨b, 1, none⟩ = some _ := HB2.out.cell 1
    have d2 : w2.cell? ⟨b, 2, none⟩ = some _ := HB2.out.cell 2
    have hl2 := HB2.out.lt
    have hfz2 := HB2.out.frozen
    (try clear hcw1 hfw1)
    clear hcw2 hfw2 c0 c1 c2 hfz
    go_wp2
    have h01 : (k : Int) + 1 ≤ (n : Int) := by omega
    refine wp_region_later (by kernel_rfl) (by kernel_rfl) (fun hlx => ?_)
    repeat (go_big_quiet_step (fail))
    refine wpQuiet_nil ?_
    clear hlx
    intro w3 hbw3
    obtain ⟨hzw3, hcw3, hfw3⟩ := bfacts hbw3; (try simp at hzw3 hcw3 hfw3); (try (have : w.heap.size < w3.heap.size := by omega)); (try (have : w.heap.size + 1 < w3.heap.size := by omega)); (try (have : w.heap.size + 1 + 1 < w3.heap.size := by omega)); (try (have : w.heap.size + 1 + 1 + 1 < w3.heap.size := by omega))
    go_wp2
    go_ret
    exact ⟨B k, rfl, r1, r2, ⟨⟨k + 1, _, B, by omega, ((HB2.out.set_ 1 _).set_ 2 _).below hbw3 (by simpa using hl2), HR.out, (Sl.below HS.out (HBW.out)).keptC ((((Kept.refl w2 (some ⟨b, 0, none⟩) 1).setCell (by decide) _).setCell (by decide) _).laterB hbw3) (fun h0 a ha => by have := HA.out h0 a ha; omega), HA.out⟩, (((((Kept.refl w (some ⟨b, 0, none⟩) 1).laterB HBW.out).setCell (by decide) _).setCell (by decide) _).laterB hbw3)⟩⟩
  · go_wp2
    refine wp_region_later (by kernel_rfl) (by kernel_rfl) (fun hlx => ?_)
    repeat (go_big_quiet_step (fail))
    refine wpQuiet_nil ?_
    clear hlx
    intro w2 hbw2
    obtain ⟨hzw2, hcw2, hfw2⟩ := bfacts hbw2; (try simp at hzw2 hcw2 hfw2); (try (have : w.heap.size < w2.heap.size := by omega)); (try (have : w.heap.size + 1 < w2.heap.size := by omega)); (try (have : w.heap.size + 1 + 1 < w2.heap.size := by omega)); (try (have : w.heap.size + 1 + 1 + 1 < w2.heap.size := by omega))
    have HBW := Lib.hid (show Below w.heap.size w w2 from by repeat' (first | (with_reducible exact Below.refl _ _) | (with_reducible assumption) | (with_reducible refine Below.alloc ?_ ?_ _) | (with_reducible refine Below.drew ?_) | (with_reducible refine Below.setCell ?_ ?_ _) | (with_reducible refine Below.stepB (by assumption) ?_ ?_) | go_size))
    have HB2 := Lib.hid (HB.out.below HBW.out hbl)
    have d0 : w2.cell? ⟨b, 0, none⟩ = some _ := HB2.out.cell 0
    have d1 : w2.cell? ⟨b, 1, none⟩ = some _ := HB2.out.cell 1
    have d2 : w2.cell? ⟨b, 2, none⟩ = some _ := HB2.out.cell 2
    have hl2 := HB2.out.lt
    have hfz2 := HB2.out.frozen
    (try clear hcw1 hfw1)
    clear hcw2 hfw2 c0 c1 c2 hfz
    go_wp2
    have h01 : ¬ (k : Int) + 1 ≤ (n : Int) := by omega
    refine wp_region_later (by kernel_rfl) (by kernel_rfl) (fun hlx => ?_)
    repeat (go_big_quiet_step (fail))
    refine wpQuiet_nil ?_
    clear hlx
    intro w3 hbw3
    obtain ⟨hzw3, hcw3, hfw3⟩ := bfacts hbw3; (try simp at hzw3 hcw3 hfw3); (try (have : w.heap.size < w3.heap.size := by omega)); (try (have : w.heap.size + 1 < w3.heap.size := by omega)); (try (have : w.heap.size + 1 + 1 < w3.heap.size := by omega)); (try (have : w.heap.size + 1 + 1 + 1 < w3.heap.size := by omega))
    go_wp2
    rw [w64_small (shr40 _)]
    go_ret
    exact ⟨_, rfl, (shr40 _).1, (shr40 _).2, ⟨⟨k + 1, _, B, by omega, ((HB2.out.set_ 1 _).set_ 2 _).below hbw3 (by simpa using hl2), HR.out, (Sl.below HS.out (HBW.out)).keptC ((((Kept.refl w2 (some ⟨b, 0, none⟩) 1).setCell (by decide) _).setCell (by decide) _).laterB hbw3) (fun h0 a ha => by have := HA.out h0 a ha; omega), HA.out⟩, (((((Kept.refl w (some ⟨b, 0, none⟩) 1).laterB HBW.out).setCell (by decide) _).setCell (by decide) _).laterB hbw3)⟩⟩
set_option maxHeartbeats 1000000 in
theorem pick_any (b : Nat) (A : Option Addr) (n c K : Nat) (m : Int) (w : World) (h : CurS w b A n c K) (hK : K ≤ 999990) (hn : n ≤ 9223372036854775807) (hm : m ≤ 100000) :
    Calls Try.prog 46 #[.pointer (some ⟨b, 0, none⟩), .int .i64 m] w fun e w' => ∃ x : Int, e = .returned (.int .i64 x) ∧ 0 ≤ x ∧ (x < m ∨ x = 0) ∧ Drew w b A n c (K + 2) w' := by
  have HN := Lib.hid (fun K' W (hK : K' ≤ 1000000) (hC : CurS W b A n c K') => next_any b A n c K' W hC hK hn)
  have HC := Lib.hid h
  clear h
  go_enter Try.func46, Try.ntmps46
  by_cases h1 : m ≤ 1
  · go_wp2
    go_ret
    exact ⟨0, rfl, Int.le_refl _, .inr rfl, HC.out.more (by omega), Kept.refl _ _ _⟩
  · go_wp2_with fail
    refine (HN.out K _ (by omega) HC.out).mono ?_
    rintro e w1 ⟨x, rfl, x0, x1, hD1⟩
    have HD1 := Lib.hid hD1
    clear hD1
    have hmp : (0 : Int) < m := by omega
    have hmne : ¬ m = 0 := by omega
    by_cases h2 : 200 < m
    · go_wp2_with fail
      refine (HN.out (K + 1) _ (by omega) HD1.out.1).mono ?_
      rintro e w2 ⟨y, rfl, y0, y1, hD2⟩
      have HD2 := Lib.hid hD2
      clear hD2
      go_wp2
      go_ret
      exact ⟨_, rfl, Int.emod_nonneg _ hmne, .inl (Int.emod_lt_of_pos _ hmp), HD2.out.1, HD1.out.2.trans1 HD2.out.2⟩
    · go_wp2
      go_ret
      exact ⟨_, rfl, Int.emod_nonneg _ hmne, .inl (Int.emod_lt_of_pos _ hmp), HD1.out.1.more (by omega), HD1.out.2⟩
theorem one_any (b : Nat) (A : Option Addr) (n c K : Nat) (m : Int) (w : World) (h : CurS w b A n c K) (hK : K ≤ 999990) (hn : n ≤ 9223372036854775807) (hm : m ≤ 100000) :
    Calls Try.prog 48 #[.pointer (some ⟨b, 0, none⟩), .int .i64 m] w fun e w' => ∃ q : Bool, e = .returned (.bool q) ∧ Drew w b A n c (K + 2) w' := by
  have HP := Lib.hid (pick_any b A n c K m w h hK hn hm)
  clear h
  go_enter Try.func48, Try.ntmps48
  go_wp2_with fail
  refine HP.out.mono ?_
  rintro e w1 ⟨x, rfl, -, -, hD⟩
  have HD := Lib.hid hD
  clear hD
  go_wp2
  go_ret
  exact ⟨_, rfl, HD.out⟩
theorem among_any (b : Nat) (A : Option Addr) (n c K : Nat) (g m c2 : Nat) (ls : List Int) (w : World) (h : CurS w b A n c K) (hK : K ≤ 999990) (hn : n ≤ 9223372036854775807) (hB : Blk w g 3 (ls.map (Value.int .i64)).toArray) (hg : g ≠ b) (hm0 : 0 < m) (hm : m ≤ ls.length) (hl : ls.length ≤ 1000) :
    Calls Try.prog 45 #[.pointer (some ⟨b, 0, none⟩), .slice (some ⟨g, 0, none⟩) m c2] w fun e w' => ∃ x : Int, e = .returned (.int .i64 x) ∧ Drew w b A n c (K + 2) w' := by
  have HP := Lib.hid (pick_any b A n c K m w h hK hn (by omega))
  have HB := Lib.hid hB
  clear h hB
  go_enter Try.func45, Try.ntmps45
  go_wp2_with fail
  refine HP.out.mono ?_
  rintro e w1 ⟨x, rfl, x0, x1, hD⟩
  have HD := Lib.hid hD
  have HB1 := Lib.hid (HB.out.keptC hD.2 hg)
  clear hD
  obtain ⟨i, rfl⟩ : ∃ i : Nat, x = i := ⟨x.toNat, by omega⟩
  have him : i < m := by omega
  have hgl := HB1.out.lt
  have hc : w1.cell? ⟨g, i, none⟩ = some (.int .i64 (ls.getD i 0)) := by
    rw [HB1.out.cell]
    simp [List.getD, show i < ls.length by omega]
  generalize ls.getD i 0 = z at hc
  clear x1
  go_wp2
  go_ret
  exact ⟨z, rfl, HD.out⟩
end Go.Proofs.Ytbgpmbaonjehbaa
