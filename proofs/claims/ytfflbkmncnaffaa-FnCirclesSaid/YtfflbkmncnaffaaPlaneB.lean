/- Contracts: the depth at a spot: the program's. -/
import Derived.Test.YtfflbkmncnaffaaPlane
namespace Go.Proofs.Ytfflbkmncnaffaa
open Go.RowKit
def frN (x d : Int) : Int := x.tdiv (Nat.gcd x.natAbs d.natAbs : Nat)
def frD (x d : Int) : Int := d.tdiv (Nat.gcd x.natAbs d.natAbs : Nat)
def deOk (S : Nat → SP) (T : Nat → Nat → Int) (m : Nat) (p : SP) : Bool := decide (0 ≤ triAt S T m p)
def deN (S : Nat → SP) (T : Nat → Nat → Int) (m : Nat) (L : Nat → Int) (p : SP) : Int := if deOk S T m p = true then frN (plN S (T (triAt S T m p).toNat) L p 3) (turnV S (T (triAt S T m p).toNat)) else 0
def deD (S : Nat → SP) (T : Nat → Nat → Int) (m : Nat) (L : Nat → Int) (p : SP) : Int := if deOk S T m p = true then frD (plN S (T (triAt S T m p).toNat) L p 3) (turnV S (T (triAt S T m p).toNat)) else 0
theorem plT_cyc (S : Nat → SP) (t : Nat → Int) (L : Nat → Int) (p : SP) (k : Nat) : plT S t L p k = crD p.x p.y (cn S t ((k + 1) % 3)).x (cn S t ((k + 1) % 3)).y (cn S t ((k + 2) % 3)).x (cn S t ((k + 2) % 3)).y * L (t k).toNat := by
  rw [plT, ← cr_cyc, Int.mul_comm]
  rfl
theorem trB_turn {S : Nat → SP} {n : Nat} {t : Nat → Int} (h : trB S n t = true) : 0 < turnV S t := by
  simp only [trB, Bool.and_eq_true, decide_eq_true_eq] at h
  exact h.2.2.2
set_option maxRecDepth 100000 in
set_option maxHeartbeats 1000000 in
theorem depthAt_yes (A : Option Addr) (n c : Nat) (S : Nat → SP) (A2 : Option Addr) (m c2 : Nat) (T : Nat → Nat → Int) (A3 : Option Addr) (c3 : Nat) (L : Nat → Int) (p : SP) (j : Nat) (w : World) (hS : SlSP w A n S) (hS2 : SlT w A2 m T) (hS3 : SlI w A3 n L) (hn : n ≤ 1048576) (hm : m ≤ 1048576)
    (hsp : ∀ i, i < n → spB (S i) = true) (hL : ∀ i, i < n → -1000 ≤ L i ∧ L i ≤ 20000) (htr : ∀ i, i < m → trB S n (T i) = true) (hp : spB p = true) (hj : triAt S T m p = j) (hjm : j < m) :
    Calls Try.prog 74 #[.slice A n c, .slice A2 m c2, .slice A3 n c3, .agg #[.int .i64 p.x, .int .i64 p.y]] w fun e w' => e = .returned (.tuple #[.agg #[.int .i64 (frN (plN S (T j) L p 3) (turnV S (T j))), .int .i64 (frD (plN S (T j) L p 3) (turnV S (T j)))], .bool true]) ∧ Below w.heap.size w w' := by
  have HTA := Lib.hid (fun W (hb : Below w.heap.size w W) => triangleAt_any A n c S A2 m c2 T p W (hS.below hb) (hS2.below hb) hn hm hsp htr hp)
  rw [hj] at HTA
  have ht := trB_idx (htr j hjm)
  have htp := trB_turn (htr j hjm)
  have HCO := Lib.hid (fun W (hb : Below w.heap.size w W) => cornersOf_any A n c S (T j) W (hS.below hb) hn ht)
  have HTB := Lib.hid (plT_bd hsp hL ht hp)
  have HNB := Lib.hid (plN_bd hsp hL ht hp)
  have htv : -2000000 ≤ turnV S (T j) ∧ turnV S (T j) ≤ 2000000 := turnV_bd hsp ht
  have hid := idxB_at ht
  have hq0 : spB (cn S (T j) 0) = true := hsp _ (by have := hid 0 (by omega); omega)
  have hq1 : spB (cn S (T j) 1) = true := hsp _ (by have := hid 1 (by omega); omega)
  have hq2 : spB (cn S (T j) 2) = true := hsp _ (by have := hid 2 (by omega); omega)
  have HP0 : Hid (plT S (T j) L p 0 = _) := plT_cyc S (T j) L p 0
  have HP1 : Hid (plT S (T j) L p 1 = _) := plT_cyc S (T j) L p 1
  have HP2 : Hid (plT S (T j) L p 2 = _) := plT_cyc S (T j) L p 2
  have HTV : Hid (turnV S (T j) = crD (cn S (T j) 0).x (cn S (T j) 0).y (cn S (T j) 1).x (cn S (T j) 1).y (cn S (T j) 2).x (cn S (T j) 2).y) := rfl
  simp only [Nat.zero_add, Nat.reduceAdd, Nat.reduceMod] at HP0 HP1 HP2
  obtain ⟨a0, a1, a2, ha0, ha1, ha2, e0, e1, e2⟩ := idxB_nat ht
  rw [e0, Int.toNat_natCast] at HP0
  rw [e1, Int.toNat_natCast] at HP1
  rw [e2, Int.toNat_natCast] at HP2
  rw [e0, e1, e2] at HCO
  generalize cn S (T j) 0 = q0 at HCO hq0 HP0 HP1 HP2 HTV
  generalize cn S (T j) 1 = q1 at HCO hq1 HP0 HP1 HP2 HTV
  generalize cn S (T j) 2 = q2 at HCO hq2 HP0 HP1 HP2 HTV
  have HX := Lib.hid (fun (x y z : SP) (hx : spB x = true) (hy : spB y = true) (hz : spB z = true) W => crossOf_any x.x x.y y.x y.y z.x z.y W hx hy hz)
  have HQ := Lib.hid (And.intro hq0 (And.intro hq1 (And.intro hq2 hp)))
  have HE := Lib.hid (And.intro e0 (And.intro e1 e2))
  have HS2 := Lib.hid hS2
  have HS3 := Lib.hid hS3
  have HXT := Lib.hid (fun W => HX.out q0 q1 q2 hq0 hq1 hq2 W)
  rw [← HTV.out] at HXT
  generalize turnV S (T j) = tv at HXT htp htv ⊢
  have hb3 := HNB.out 3 (by omega)
  generalize hres : plN S (T j) L p 3 = res at hb3 ⊢
  have HRES := Lib.hid hres
  have HAP := Lib.hid (fun W => asPart_any res tv W (by omega) (by omega) htp (by omega))
  have HN : Hid (frN res tv = res.tdiv (Nat.gcd res.natAbs tv.natAbs : Nat)) := rfl
  have HD : Hid (frD res tv = tv.tdiv (Nat.gcd res.natAbs tv.natAbs : Nat)) := rfl
  rw [← HN.out, ← HD.out] at HAP
  generalize frN res tv = fn at HAP ⊢
  generalize frD res tv = fd at HAP ⊢
  clear HN HD hres hb3
  clear HTV hS hS2 hS3 hsp hL htr hp hj ht hid hq0 hq1 hq2 e0 e1 e2
  go_enter Try.func74, Try.ntmps74
  go_wp2_with fail
  refine (HTA.out _ (by repeat' (first | (with_reducible exact Below.refl _ _) | (with_reducible assumption) | (with_reducible refine Below.alloc ?_ ?_ _) | (with_reducible refine Below.drew ?_) | (with_reducible refine Below.setCell ?_ ?_ _) | (with_reducible refine Below.stepB (by assumption) ?_ ?_) | go_size))).mono ?_
  rintro e w1 ⟨rfl, hbw1⟩
  obtain ⟨hzw1, hcw1, hfw1⟩ := bfacts hbw1; (try simp at hzw1 hcw1 hfw1); (try (have : w.heap.size < w1.heap.size := by omega)); (try (have : w.heap.size + 1 < w1.heap.size := by omega)); (try (have : w.heap.size + 1 + 1 < w1.heap.size := by omega)); (try (have : w.heap.size + 1 + 1 + 1 < w1.heap.size := by omega))
  have hp1 : Blk w1 w.heap.size 26 #[.int .i64 p.x, .int .i64 p.y] := ((blk_newP w _ _ rfl).alloc _).below hbw1 (by simp <;> omega)
  have hr1 : Blk w1 (w.heap.size + 1) 105 #[.int .i64 0, .int .i64 0] := (blk_newP (w.alloc _) _ _ (by simp)).below hbw1 (by simp)
  have HP1B := Lib.hid hp1
  have HR1B := Lib.hid hr1
  have HW1 : Hid (Below w.heap.size w w1) := Lib.hid (by repeat' (first | (with_reducible exact Below.refl _ _) | (with_reducible assumption) | (with_reducible refine Below.alloc ?_ ?_ _) | (with_reducible refine Below.drew ?_) | (with_reducible refine Below.setCell ?_ ?_ _) | (with_reducible refine Below.stepB (by assumption) ?_ ?_) | go_size))
  obtain ⟨b2, off2, rfl, hbl2, hbl2', t0, t1, t2⟩ := HS2.out.at (k := j) HW1.out hjm
  rw [HE.out.1] at t0
  rw [HE.out.2.1] at t1
  rw [HE.out.2.2] at t2
  clear hp1 hr1 hcw1
  go_wp2_with fail
  refine (HCO.out _ (by have h := HW1.out; repeat' (first | (with_reducible exact Below.refl _ _) | (with_reducible assumption) | (with_reducible refine Below.alloc ?_ ?_ _) | (with_reducible refine Below.drew ?_) | (with_reducible refine Below.setCell ?_ ?_ _) | (with_reducible refine Below.stepB (by assumption) ?_ ?_) | go_size))).mono ?_
  rintro e w2 ⟨rfl, hbw2⟩
  obtain ⟨hzw2, hcw2, hfw2⟩ := bfacts hbw2; (try simp at hzw2 hcw2 hfw2); (try (have : w.heap.size < w2.heap.size := by omega)); (try (have : w.heap.size + 1 < w2.heap.size := by omega)); (try (have : w.heap.size + 1 + 1 < w2.heap.size := by omega)); (try (have : w.heap.size + 1 + 1 + 1 < w2.heap.size := by omega))
  clear t0 t1 t2
  have HW2 : Hid (Below w.heap.size w w2) := HW1.out.trans (by repeat' (first | (with_reducible exact Below.refl _ _) | (with_reducible assumption) | (with_reducible refine Below.alloc ?_ ?_ _) | (with_reducible refine Below.drew ?_) | (with_reducible refine Below.setCell ?_ ?_ _) | (with_reducible refine Below.stepB (by assumption) ?_ ?_) | go_size))
  have hz12 : w1.heap.size < w2.heap.size := by omega
  have HP2B := Lib.hid ((HP1B.out.alloc (.cells #[.int .i64 a0, .int .i64 a1, .int .i64 a2] 41)).below hbw2 (by simp; omega))
  have HR2B := Lib.hid ((HR1B.out.alloc (.cells #[.int .i64 a0, .int .i64 a1, .int .i64 a2] 41)).below hbw2 (by simp; omega))
  have HT2B : Hid (Blk w2 w1.heap.size 41 #[.int .i64 a0, .int .i64 a1, .int .i64 a2]) := Lib.hid ((blk_newP w1 _ _ rfl).below hbw2 (by simp))
  clear hcw2
  go_wp2
  go_loopw [29, 13] (fun vc v10 wr => ∃ (k : Nat) (s : Int), k ≤ 3 ∧ vc = .int .i64 k ∧ v10 = .int .i64 s ∧ Hid (s = plN S (T j) L p k) ∧ Blk wr w1.heap.size 41 #[.int .i64 a0, .int .i64 a1, .int .i64 a2] ∧ Blk wr w.heap.size 26 #[.int .i64 p.x, .int .i64 p.y] ∧ Blk wr (w.heap.size + 1) 105 #[.int .i64 0, .int .i64 0] ∧ Blk wr w2.heap.size 95 #[.int .i64 q0.x, .int .i64 q0.y, .int .i64 q1.x, .int .i64 q1.y, .int .i64 q2.x, .int .i64 q2.y] ∧ Below w.heap.size w wr) (fun vc _ _ => 3 - (intOf vc).toNat)
  case atStart => exact ⟨0, 0, by omega, rfl, rfl, rfl, HT2B.out.alloc _, HP2B.out.alloc _, HR2B.out.alloc _, blk_newP _ _ _ rfl, HW2.out.alloc (by omega) _⟩
  case round =>
    obtain ⟨k, s, hk, rfl, rfl, hs, hA, hB, hR, hC, hbr⟩ := hrel
    have hzr := hbr.size
    have hlA := hA.lt
    have hlB := hB.lt
    have hlR := hR.lt
    have hlC := hC.lt
    have HA := Lib.hid hA
    have HB := Lib.hid hB
    have HR := Lib.hid hR
    have HC3 := Lib.hid hC
    have HBR := Lib.hid hbr
    have hsb := HNB.out k hk
    rw [← show s = plN S (T j) L p k from hs] at hsb
    have c0 : wr.cell? ⟨w1.heap.size, 0, none⟩ = some (.int .i64 a0) := hA.cell 0
    have c1 : wr.cell? ⟨w1.heap.size, 1, none⟩ = some (.int .i64 a1) := hA.cell 1
    have c2 : wr.cell? ⟨w1.heap.size, 2, none⟩ = some (.int .i64 a2) := hA.cell 2
    have p0 : wr.cell? ⟨w.heap.size, 0, none⟩ = some (.int .i64 p.x) := hB.cell 0
    have p1 : wr.cell? ⟨w.heap.size, 1, none⟩ = some (.int .i64 p.y) := hB.cell 1
    have x0 : wr.cell? ⟨w2.heap.size, 0, none⟩ = some (.int .i64 q0.x) := hC.cell 0
    have y0 : wr.cell? ⟨w2.heap.size, 1, none⟩ = some (.int .i64 q0.y) := hC.cell 1
    have x1 : wr.cell? ⟨w2.heap.size, 2, none⟩ = some (.int .i64 q1.x) := hC.cell 2
    have y1 : wr.cell? ⟨w2.heap.size, 3, none⟩ = some (.int .i64 q1.y) := hC.cell 3
    have x2 : wr.cell? ⟨w2.heap.size, 4, none⟩ = some (.int .i64 q2.x) := hC.cell 4
    have y2 : wr.cell? ⟨w2.heap.size, 5, none⟩ = some (.int .i64 q2.y) := hC.cell 5
    clear hA hB hR hC
    obtain rfl | rfl | rfl | rfl : k = 0 ∨ k = 1 ∨ k = 2 ∨ k = 3 := by omega
    · obtain ⟨b3, off3, rfl, hbl3, hbl3', l0⟩ := HS3.out.at (k := a0) hbr ha0
      have htb := HTB.out 0 (by omega)
      have HC := Lib.hid (fun W => HX.out p q1 q2 HQ.out.2.2.2 HQ.out.2.1 HQ.out.2.2.1 W)
      have HP := HP0
      rw [HP0.out] at htb
      generalize hcv : crD p.x p.y q1.x q1.y q2.x q2.y = cv at HC HP htb
      generalize hll : L a0 = l at l0 HP htb
      generalize hlv : cv * l = lv at HP htb
      have m1 : IntKind.i64.wrap lv = lv := by rw [IntKind.wrap_i64]; omega
      have m2 : IntKind.i64.wrap (s + lv) = s + lv := by rw [IntKind.wrap_i64]; omega
      have HN : Hid (s + lv = plN S (T j) L p 1) := by show _ = _; rw [plN, HP.out, ← show s = plN S (T j) L p 0 from hs]
      clear hcv hll hbr hs htb hsb x0 y0
      have s1 : IntKind.i64.wrap (((0 : Nat) : Int) + 1) = 1 := by decide
      have s2 : IntKind.i64.wrap ((0 : Int) + 1) = 1 := by decide
      have s3 : IntKind.i64.wrap (((0 : Nat) : Int) + 2) = 2 := by decide
      have s4 : IntKind.i64.wrap ((0 : Int) + 2) = 2 := by decide
      have s5 : IntKind.i64.wrap (0 : Int) = 0 := by decide
      have s6 : (0 : Int).tmod 3 = 0 := by decide
      have s7 : IntKind.i64.wrap (1 : Int) = 1 := by decide
      have s8 : (1 : Int).tmod 3 = 1 := by decide
      have s9 : IntKind.i64.wrap (2 : Int) = 2 := by decide
      have s10 : (2 : Int).tmod 3 = 2 := by decide
      have s11 : IntKind.i64.wrap (3 : Int) = 3 := by decide
      have s12 : (3 : Int).tmod 3 = 0 := by decide
      have s13 : IntKind.i64.wrap (4 : Int) = 4 := by decide
      have s14 : (4 : Int).tmod 3 = 1 := by decide
      go_wp2
      refine wp_region_later (by kernel_rfl) (by kernel_rfl) (fun hlx => ?_)
      repeat (go_big_quiet_step ((go_at_call 68; with_reducible exact Later.call (HC.out _))))
      refine wpQuiet_nil ?_
      clear hlx
      intro w3 hbw3
      obtain ⟨hzw3, hcw3, hfw3⟩ := bfacts hbw3; (try simp at hzw3 hcw3 hfw3); (try (have : w.heap.size < w3.heap.size := by omega)); (try (have : w.heap.size + 1 < w3.heap.size := by omega)); (try (have : w.heap.size + 1 + 1 < w3.heap.size := by omega)); (try (have : w.heap.size + 1 + 1 + 1 < w3.heap.size := by omega))
      go_wp2
      go_roundw
      case rel => exact ⟨1, s + lv, by omega, by go_num, rfl, HN.out, HA.out.below hbw3 hlA, HB.out.below hbw3 hlB, HR.out.below hbw3 hlR, HC3.out.below hbw3 hlC, HBR.out.trans (hbw3.mono hzr)⟩
      case measure => simp [intOf]
    · obtain ⟨b3, off3, rfl, hbl3, hbl3', l0⟩ := HS3.out.at (k := a1) hbr ha1
      have htb := HTB.out 1 (by omega)
      have HC := Lib.hid (fun W => HX.out p q2 q0 HQ.out.2.2.2 HQ.out.2.2.1 HQ.out.1 W)
      have HP := HP1
      rw [HP1.out] at htb
      generalize hcv : crD p.x p.y q2.x q2.y q0.x q0.y = cv at HC HP htb
      generalize hll : L a1 = l at l0 HP htb
      generalize hlv : cv * l = lv at HP htb
      have m1 : IntKind.i64.wrap lv = lv := by rw [IntKind.wrap_i64]; omega
      have m2 : IntKind.i64.wrap (s + lv) = s + lv := by rw [IntKind.wrap_i64]; omega
      have HN : Hid (s + lv = plN S (T j) L p 2) := by show _ = _; rw [plN, HP.out, ← show s = plN S (T j) L p 1 from hs]
      clear hcv hll hbr hs htb hsb x1 y1
      have s1 : IntKind.i64.wrap (((1 : Nat) : Int) + 1) = 2 := by decide
      have s2 : IntKind.i64.wrap ((1 : Int) + 1) = 2 := by decide
      have s3 : IntKind.i64.wrap (((1 : Nat) : Int) + 2) = 3 := by decide
      have s4 : IntKind.i64.wrap ((1 : Int) + 2) = 3 := by decide
      have s5 : IntKind.i64.wrap (0 : Int) = 0 := by decide
      have s6 : (0 : Int).tmod 3 = 0 := by decide
      have s7 : IntKind.i64.wrap (1 : Int) = 1 := by decide
      have s8 : (1 : Int).tmod 3 = 1 := by decide
      have s9 : IntKind.i64.wrap (2 : Int) = 2 := by decide
      have s10 : (2 : Int).tmod 3 = 2 := by decide
      have s11 : IntKind.i64.wrap (3 : Int) = 3 := by decide
      have s12 : (3 : Int).tmod 3 = 0 := by decide
      have s13 : IntKind.i64.wrap (4 : Int) = 4 := by decide
      have s14 : (4 : Int).tmod 3 = 1 := by decide
      go_wp2
      refine wp_region_later (by kernel_rfl) (by kernel_rfl) (fun hlx => ?_)
      repeat (go_big_quiet_step ((go_at_call 68; with_reducible exact Later.call (HC.out _))))
      refine wpQuiet_nil ?_
      clear hlx
      intro w3 hbw3
      obtain ⟨hzw3, hcw3, hfw3⟩ := bfacts hbw3; (try simp at hzw3 hcw3 hfw3); (try (have : w.heap.size < w3.heap.size := by omega)); (try (have : w.heap.size + 1 < w3.heap.size := by omega)); (try (have : w.heap.size + 1 + 1 < w3.heap.size := by omega)); (try (have : w.heap.size + 1 + 1 + 1 < w3.heap.size := by omega))
      go_wp2
      go_roundw
      case rel => exact ⟨2, s + lv, by omega, by go_num, rfl, HN.out, HA.out.below hbw3 hlA, HB.out.below hbw3 hlB, HR.out.below hbw3 hlR, HC3.out.below hbw3 hlC, HBR.out.trans (hbw3.mono hzr)⟩
      case measure => simp [intOf]
    · obtain ⟨b3, off3, rfl, hbl3, hbl3', l0⟩ := HS3.out.at (k := a2) hbr ha2
      have htb := HTB.out 2 (by omega)
      have HC := Lib.hid (fun W => HX.out p q0 q1 HQ.out.2.2.2 HQ.out.1 HQ.out.2.1 W)
      have HP := HP2
      rw [HP2.out] at htb
      generalize hcv : crD p.x p.y q0.x q0.y q1.x q1.y = cv at HC HP htb
      generalize hll : L a2 = l at l0 HP htb
      generalize hlv : cv * l = lv at HP htb
      have m1 : IntKind.i64.wrap lv = lv := by rw [IntKind.wrap_i64]; omega
      have m2 : IntKind.i64.wrap (s + lv) = s + lv := by rw [IntKind.wrap_i64]; omega
      have HN : Hid (s + lv = plN S (T j) L p 3) := by show _ = _; rw [plN, HP.out, ← show s = plN S (T j) L p 2 from hs]
      clear hcv hll hbr hs htb hsb x2 y2
      have s1 : IntKind.i64.wrap (((2 : Nat) : Int) + 1) = 3 := by decide
      have s2 : IntKind.i64.wrap ((2 : Int) + 1) = 3 := by decide
      have s3 : IntKind.i64.wrap (((2 : Nat) : Int) + 2) = 4 := by decide
      have s4 : IntKind.i64.wrap ((2 : Int) + 2) = 4 := by decide
      have s5 : IntKind.i64.wrap (0 : Int) = 0 := by decide
      have s6 : (0 : Int).tmod 3 = 0 := by decide
      have s7 : IntKind.i64.wrap (1 : Int) = 1 := by decide
      have s8 : (1 : Int).tmod 3 = 1 := by decide
      have s9 : IntKind.i64.wrap (2 : Int) = 2 := by decide
      have s10 : (2 : Int).tmod 3 = 2 := by decide
      have s11 : IntKind.i64.wrap (3 : Int) = 3 := by decide
      have s12 : (3 : Int).tmod 3 = 0 := by decide
      have s13 : IntKind.i64.wrap (4 : Int) = 4 := by decide
      have s14 : (4 : Int).tmod 3 = 1 := by decide
      go_wp2
      refine wp_region_later (by kernel_rfl) (by kernel_rfl) (fun hlx => ?_)
      repeat (go_big_quiet_step ((go_at_call 68; with_reducible exact Later.call (HC.out _))))
      refine wpQuiet_nil ?_
      clear hlx
      intro w3 hbw3
      obtain ⟨hzw3, hcw3, hfw3⟩ := bfacts hbw3; (try simp at hzw3 hcw3 hfw3); (try (have : w.heap.size < w3.heap.size := by omega)); (try (have : w.heap.size + 1 < w3.heap.size := by omega)); (try (have : w.heap.size + 1 + 1 < w3.heap.size := by omega)); (try (have : w.heap.size + 1 + 1 + 1 < w3.heap.size := by omega))
      go_wp2
      go_roundw
      case rel => exact ⟨3, s + lv, by omega, by go_num, rfl, HN.out, HA.out.below hbw3 hlA, HB.out.below hbw3 hlB, HR.out.below hbw3 hlR, HC3.out.below hbw3 hlC, HBR.out.trans (hbw3.mono hzr)⟩
      case measure => simp [intOf]
    · have hsn : s = res := (show s = plN S (T j) L p 3 from hs).trans HRES.out
      subst hsn
      clear hs hsb
      go_wp2_with fail
      refine (HXT.out _).mono ?_
      rintro e w3 ⟨rfl, hbw3⟩
      obtain ⟨hzw3, hcw3, hfw3⟩ := bfacts hbw3; (try simp at hzw3 hcw3 hfw3); (try (have : w.heap.size < w3.heap.size := by omega)); (try (have : w.heap.size + 1 < w3.heap.size := by omega)); (try (have : w.heap.size + 1 + 1 < w3.heap.size := by omega)); (try (have : w.heap.size + 1 + 1 + 1 < w3.heap.size := by omega))
      go_wp2_with fail
      refine (HAP.out _).mono ?_
      rintro e w4 ⟨rfl, hbw4⟩
      obtain ⟨hzw4, hcw4, hfw4⟩ := bfacts hbw4; (try simp at hzw4 hcw4 hfw4); (try (have : w.heap.size < w4.heap.size := by omega)); (try (have : w.heap.size + 1 < w4.heap.size := by omega)); (try (have : w.heap.size + 1 + 1 < w4.heap.size := by omega)); (try (have : w.heap.size + 1 + 1 + 1 < w4.heap.size := by omega))
      have hR4 := (HR.out.below hbw3 hlR).below hbw4 (by omega)
      have d0 : w4.cell? ⟨w.heap.size + 1, 0, none⟩ = some (.int .i64 0) := hR4.cell 0
      have d1 : w4.cell? ⟨w.heap.size + 1, 1, none⟩ = some (.int .i64 0) := hR4.cell 1
      have hfz := hR4.frozen
      have hlt := hR4.lt
      have hR5 := Lib.hid ((hR4.set_ 0 (.int .i64 fn)).set_ 1 (.int .i64 fd))
      have HW4 : Hid (Below w.heap.size w w4) := Lib.hid (by repeat' (first | (with_reducible exact Below.refl _ _) | (with_reducible assumption) | (with_reducible refine Below.alloc ?_ ?_ _) | (with_reducible refine Below.drew ?_) | (with_reducible refine Below.setCell ?_ ?_ _) | (with_reducible refine Below.stepB (by assumption) ?_ ?_) | go_size))
      clear hcw3 hfw3 hcw4 hfw4 hbw3 hbw4 c0 c1 c2 p0 p1 x0 x1 x2 y0 y1 y2 hR4 hbr
      go_wp2
      have f0 : ((w4.setCell ⟨w.heap.size + 1, 0, none⟩ (.int .i64 fn)).setCell ⟨w.heap.size + 1, 1, none⟩ (.int .i64 fd)).cell? ⟨w.heap.size + 1, 0, none⟩ = some (.int .i64 fn) := hR5.out.cell 0
      have f1 : ((w4.setCell ⟨w.heap.size + 1, 0, none⟩ (.int .i64 fn)).setCell ⟨w.heap.size + 1, 1, none⟩ (.int .i64 fd)).cell? ⟨w.heap.size + 1, 1, none⟩ = some (.int .i64 fd) := hR5.out.cell 1
      refine bodyPost_ret (by simp [results, Try.results74, go_sem, f0, f1]; try rfl) rfl ?_
      have hbr := HW4.out
      exact ⟨rfl, by repeat' (first | (with_reducible exact Below.refl _ _) | (with_reducible assumption) | (with_reducible refine Below.alloc ?_ ?_ _) | (with_reducible refine Below.drew ?_) | (with_reducible refine Below.setCell ?_ ?_ _) | (with_reducible refine Below.stepB (by assumption) ?_ ?_) | go_size)⟩
end Go.Proofs.Ytfflbkmncnaffaa
