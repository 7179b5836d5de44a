/- Contracts: the depth on the plane of a triangle: the reference's sum. -/
import Derived.Test.YtfflbkmncnaffaaFrac
import Derived.Test.YtfflbkmncnaffaaMeshH
namespace Go.Proofs.Ytfflbkmncnaffaa
open Go.RowKit
def plT (S : Nat → SP) (t : Nat → Int) (L : Nat → Int) (p : SP) (k : Nat) : Int := L (t k).toNat * cr (cn S t ((k + 1) % 3)) (cn S t ((k + 2) % 3)) p
def plN (S : Nat → SP) (t : Nat → Int) (L : Nat → Int) (p : SP) : Nat → Int
  | 0 => 0
  | k + 1 => plN S t L p k + plT S t L p k
theorem cr_cyc (a b c : SP) : cr c a b = cr a b c := by
  simp only [cr, crD]
  grind
theorem mul_bdD {l v : Int} (h1 : -1000 ≤ l ∧ l ≤ 20000) (h2 : -2000000 ≤ v ∧ v ≤ 2000000) : -40000000000 ≤ l * v ∧ l * v ≤ 40000000000 := by
  have ha : (l * v).natAbs ≤ 20000 * 2000000 := by
    rw [Int.natAbs_mul]
    exact Nat.mul_le_mul (by omega) (by omega)
  omega
theorem plT_bd {n : Nat} {S : Nat → SP} {t : Nat → Int} {L : Nat → Int} {p : SP} (hsp : ∀ i, i < n → spB (S i) = true) (hL : ∀ i, i < n → -1000 ≤ L i ∧ L i ≤ 20000) (ht : idxB n t = true) (hp : spB p = true) (k : Nat) (hk : k < 3) :
    -40000000000 ≤ plT S t L p k ∧ plT S t L p k ≤ 40000000000 := by
  have h := idxB_at ht
  have h0 := h k hk
  have h1 := h ((k + 1) % 3) (Nat.mod_lt _ (by omega))
  have h2 := h ((k + 2) % 3) (Nat.mod_lt _ (by omega))
  exact mul_bdD (hL _ (by omega)) (cr_bd (hsp _ (by omega)) (hsp _ (by omega)) hp)
theorem plN_bd {n : Nat} {S : Nat → SP} {t : Nat → Int} {L : Nat → Int} {p : SP} (hsp : ∀ i, i < n → spB (S i) = true) (hL : ∀ i, i < n → -1000 ≤ L i ∧ L i ≤ 20000) (ht : idxB n t = true) (hp : spB p = true) :
    ∀ k : Nat, k ≤ 3 → -40000000000 * (k : Int) ≤ plN S t L p k ∧ plN S t L p k ≤ 40000000000 * (k : Int)
  | 0, _ => by simp [plN]
  | k + 1, hk => by
    have h1 := plN_bd hsp hL ht hp k (by omega)
    have h2 := plT_bd hsp hL ht hp k (by omega)
    rw [plN]
    omega
set_option maxRecDepth 100000 in
set_option maxHeartbeats 1000000 in
theorem l15Plane_any (A : Option Addr) (n c : Nat) (S : Nat → SP) (t : Nat → Int) (A3 : Option Addr) (c3 : Nat) (L : Nat → Int) (p : SP) (w : World) (hS : SlSP w A n S) (hS3 : SlI w A3 n L) (hn : n ≤ 1048576) (hsp : ∀ i, i < n → spB (S i) = true) (hL : ∀ i, i < n → -1000 ≤ L i ∧ L i ≤ 20000) (ht : idxB n t = true) (hp : spB p = true) :
    Calls Try.prog 77 #[.slice A n c, .agg #[.int .i64 (t 0), .int .i64 (t 1), .int .i64 (t 2)], .slice A3 n c3, .agg #[.int .i64 p.x, .int .i64 p.y]] w fun e w' => e = .returned (.tuple #[.int .i64 (plN S t L p 3), .int .i64 (turnV S t)]) ∧ Below w.heap.size w w' := by
  have HT := Lib.hid (fun W (hb : Below w.heap.size w W) => l15Turn_any A n c S t W (hS.below hb) hn hsp ht)
  have HTB := Lib.hid (plT_bd hsp hL ht hp)
  have HNB := Lib.hid (plN_bd hsp hL ht hp)
  obtain ⟨a0, a1, a2, ha0, ha1, ha2, e0, e1, e2⟩ := idxB_nat ht
  have HX := Lib.hid (fun i j (hi : i < n) (hj : j < n) W => l2Cross_any (S i).x (S i).y (S j).x (S j).y p.x p.y W (hsp i hi) (hsp j hj) hp)
  have HP0 : Hid (plT S t L p 0 = L a0 * crD (S a1).x (S a1).y (S a2).x (S a2).y p.x p.y) := by show _ = _; simp only [plT, cn, e0, e1, e2, cr, Int.toNat_natCast]
  have HP1 : Hid (plT S t L p 1 = L a1 * crD (S a2).x (S a2).y (S a0).x (S a0).y p.x p.y) := by show _ = _; simp only [plT, cn, e0, e1, e2, cr, Int.toNat_natCast]
  have HP2 : Hid (plT S t L p 2 = L a2 * crD (S a0).x (S a0).y (S a1).x (S a1).y p.x p.y) := by show _ = _; simp only [plT, cn, e0, e1, e2, cr, Int.toNat_natCast]
  rw [e0, e1, e2] at HT
  generalize turnV S t = tv at HT ⊢
  rw [e0, e1, e2]
  obtain ⟨b, off, rfl⟩ := hS.form ha0
  have HS := Lib.hid hS
  have HS3 := Lib.hid hS3
  clear hS hS3 hsp hL ht hp e0 e1 e2
  go_enter Try.func77, Try.ntmps77
  go_wp2
  go_loopw [11, 10] (fun vc v10 wr => ∃ (k : Nat) (s : Int), k ≤ 3 ∧ vc = .int .i64 k ∧ v10 = .int .i64 s ∧ Hid (s = plN S t L p k) ∧ Blk wr w.heap.size 41 #[.int .i64 a0, .int .i64 a1, .int .i64 a2] ∧ Blk wr (w.heap.size + 1) 26 #[.int .i64 p.x, .int .i64 p.y] ∧ Below w.heap.size w wr) (fun vc _ _ => 3 - (intOf vc).toNat)
  case atStart => exact ⟨0, 0, by omega, rfl, rfl, rfl, (blk_newP w _ _ rfl).alloc _, blk_newP _ _ _ (by simp), by repeat' (first | (with_reducible exact Below.refl _ _) | (with_reducible assumption) | (with_reducible refine Below.alloc ?_ ?_ _) | (with_reducible refine Below.drew ?_) | (with_reducible refine Below.setCell ?_ ?_ _) | (with_reducible refine Below.stepB (by assumption) ?_ ?_) | go_size)⟩
  case round =>
    obtain ⟨k, s, hk, rfl, rfl, hs, hA, hB, hbr⟩ := hrel
    have hzr := hbr.size
    have hlA := hA.lt
    have hlB := hB.lt
    have HA := Lib.hid hA
    have HB := Lib.hid hB
    have HBR := Lib.hid hbr
    have hsb := HNB.out k hk
    rw [← show s = plN S t L p k from hs] at hsb
    have c0 : wr.cell? ⟨w.heap.size, 0, none⟩ = some (.int .i64 a0) := hA.cell 0
    have c1 : wr.cell? ⟨w.heap.size, 1, none⟩ = some (.int .i64 a1) := hA.cell 1
    have c2 : wr.cell? ⟨w.heap.size, 2, none⟩ = some (.int .i64 a2) := hA.cell 2
    have p0 : wr.cell? ⟨w.heap.size + 1, 0, none⟩ = some (.int .i64 p.x) := hB.cell 0
    have p1 : wr.cell? ⟨w.heap.size + 1, 1, none⟩ = some (.int .i64 p.y) := hB.cell 1
    have hSr : SlSP wr (some ⟨b, off, none⟩) n S := HS.out.below hbr
    obtain ⟨hbl0, x0, y0⟩ := hSr.pt ha0
    obtain ⟨_, x1, y1⟩ := hSr.pt ha1
    obtain ⟨_, x2, y2⟩ := hSr.pt ha2
    clear hA hB hSr
    obtain rfl | rfl | rfl | rfl : k = 0 ∨ k = 1 ∨ k = 2 ∨ k = 3 := by omega
    · obtain ⟨b3, off3, rfl, hbl3, hbl3', l0⟩ := HS3.out.at (k := a0) hbr ha0
      have htb := HTB.out 0 (by omega)
      have HC := Lib.hid (fun W => HX.out a1 a2 ha1 ha2 W)
      have HP := HP0
      rw [HP0.out] at htb
      generalize hcv : crD (S a1).x (S a1).y (S a2).x (S a2).y p.x p.y = cv at HC HP htb
      generalize hll : L a0 = l at l0 HP htb
      generalize hlv : l * cv = lv at HP htb
      have m1 : IntKind.i64.wrap lv = lv := by rw [IntKind.wrap_i64]; omega
      have m2 : IntKind.i64.wrap (s + lv) = s + lv := by rw [IntKind.wrap_i64]; omega
      have HN : Hid (s + lv = plN S t L p 1) := by show _ = _; rw [plN, HP.out, ← show s = plN S t L p 0 from hs]
      clear hcv hll hbr hs htb hsb x0 y0
      have s1 : IntKind.i64.wrap (((0 : Nat) : Int) + 1) = 1 := by decide
      have s2 : IntKind.i64.wrap ((0 : Int) + 1) = 1 := by decide
      have s3 : IntKind.i64.wrap (((0 : Nat) : Int) + 2) = 2 := by decide
      have s4 : IntKind.i64.wrap ((0 : Int) + 2) = 2 := by decide
      have s5 : IntKind.i64.wrap (0 : Int) = 0 := by decide
      have s6 : (0 : Int).tmod 3 = 0 := by decide
      have s7 : IntKind.i64.wrap (1 : Int) = 1 := by decide
      have s8 : (1 : Int).tmod 3 = 1 := by decide
      have s9 : IntKind.i64.wrap (2 : Int) = 2 := by decide
      have s10 : (2 : Int).tmod 3 = 2 := by decide
      have s11 : IntKind.i64.wrap (3 : Int) = 3 := by decide
      have s12 : (3 : Int).tmod 3 = 0 := by decide
      have s13 : IntKind.i64.wrap (4 : Int) = 4 := by decide
      have s14 : (4 : Int).tmod 3 = 1 := by decide
      go_wp2
      refine wp_region_later (by kernel_rfl) (by kernel_rfl) (fun hlx => ?_)
      repeat (go_big_quiet_step ((go_at_call 65; with_reducible exact Later.call (HC.out _))))
      refine wpQuiet_nil ?_
      clear hlx
      intro w3 hbw3
      obtain ⟨hzw3, hcw3, hfw3⟩ := bfacts hbw3; (try simp at hzw3 hcw3 hfw3); (try (have : w.heap.size < w3.heap.size := by omega)); (try (have : w.heap.size + 1 < w3.heap.size := by omega)); (try (have : w.heap.size + 1 + 1 < w3.heap.size := by omega)); (try (have : w.heap.size + 1 + 1 + 1 < w3.heap.size := by omega))
      go_wp2
      go_roundw
      case rel => exact ⟨1, s + lv, by omega, by go_num, rfl, HN.out, HA.out.below hbw3 hlA, HB.out.below hbw3 hlB, HBR.out.trans (hbw3.mono hzr)⟩
      case measure => simp [intOf]
    · obtain ⟨b3, off3, rfl, hbl3, hbl3', l0⟩ := HS3.out.at (k := a1) hbr ha1
      have htb := HTB.out 1 (by omega)
      have HC := Lib.hid (fun W => HX.out a2 a0 ha2 ha0 W)
      have HP := HP1
      rw [HP1.out] at htb
      generalize hcv : crD (S a2).x (S a2).y (S a0).x (S a0).y p.x p.y = cv at HC HP htb
      generalize hll : L a1 = l at l0 HP htb
      generalize hlv : l * cv = lv at HP htb
      have m1 : IntKind.i64.wrap lv = lv := by rw [IntKind.wrap_i64]; omega
      have m2 : IntKind.i64.wrap (s + lv) = s + lv := by rw [IntKind.wrap_i64]; omega
      have HN : Hid (s + lv = plN S t L p 2) := by show _ = _; rw [plN, HP.out, ← show s = plN S t L p 1 from hs]
      clear hcv hll hbr hs htb hsb x1 y1
      have s1 : IntKind.i64.wrap (((1 : Nat) : Int) + 1) = 2 := by decide
      have s2 : IntKind.i64.wrap ((1 : Int) + 1) = 2 := by decide
      have s3 : IntKind.i64.wrap (((1 : Nat) : Int) + 2) = 3 := by decide
      have s4 : IntKind.i64.wrap ((1 : Int) + 2) = 3 := by decide
      have s5 : IntKind.i64.wrap (0 : Int) = 0 := by decide
      have s6 : (0 : Int).tmod 3 = 0 := by decide
      have s7 : IntKind.i64.wrap (1 : Int) = 1 := by decide
      have s8 : (1 : Int).tmod 3 = 1 := by decide
      have s9 : IntKind.i64.wrap (2 : Int) = 2 := by decide
      have s10 : (2 : Int).tmod 3 = 2 := by decide
      have s11 : IntKind.i64.wrap (3 : Int) = 3 := by decide
      have s12 : (3 : Int).tmod 3 = 0 := by decide
      have s13 : IntKind.i64.wrap (4 : Int) = 4 := by decide
      have s14 : (4 : Int).tmod 3 = 1 := by decide
      go_wp2
      refine wp_region_later (by kernel_rfl) (by kernel_rfl) (fun hlx => ?_)
      repeat (go_big_quiet_step ((go_at_call 65; with_reducible exact Later.call (HC.out _))))
      refine wpQuiet_nil ?_
      clear hlx
      intro w3 hbw3
      obtain ⟨hzw3, hcw3, hfw3⟩ := bfacts hbw3; (try simp at hzw3 hcw3 hfw3); (try (have : w.heap.size < w3.heap.size := by omega)); (try (have : w.heap.size + 1 < w3.heap.size := by omega)); (try (have : w.heap.size + 1 + 1 < w3.heap.size := by omega)); (try (have : w.heap.size + 1 + 1 + 1 < w3.heap.size := by omega))
      go_wp2
      go_roundw
      case rel => exact ⟨2, s + lv, by omega, by go_num, rfl, HN.out, HA.out.below hbw3 hlA, HB.out.below hbw3 hlB, HBR.out.trans (hbw3.mono hzr)⟩
      case measure => simp [intOf]
    · obtain ⟨b3, off3, rfl, hbl3, hbl3', l0⟩ := HS3.out.at (k := a2) hbr ha2
      have htb := HTB.out 2 (by omega)
      have HC := Lib.hid (fun W => HX.out a0 a1 ha0 ha1 W)
      have HP := HP2
      rw [HP2.out] at htb
      generalize hcv : crD (S a0).x (S a0).y (S a1).x (S a1).y p.x p.y = cv at HC HP htb
      generalize hll : L a2 = l at l0 HP htb
      generalize hlv : l * cv = lv at HP htb
      have m1 : IntKind.i64.wrap lv = lv := by rw [IntKind.wrap_i64]; omega
      have m2 : IntKind.i64.wrap (s + lv) = s + lv := by rw [IntKind.wrap_i64]; omega
      have HN : Hid (s + lv = plN S t L p 3) := by show _ = _; rw [plN, HP.out, ← show s = plN S t L p 2 from hs]
      clear hcv hll hbr hs htb hsb x2 y2
      have s1 : IntKind.i64.wrap (((2 : Nat) : Int) + 1) = 3 := by decide
      have s2 : IntKind.i64.wrap ((2 : Int) + 1) = 3 := by decide
      have s3 : IntKind.i64.wrap (((2 : Nat) : Int) + 2) = 4 := by decide
      have s4 : IntKind.i64.wrap ((2 : Int) + 2) = 4 := by decide
      have s5 : IntKind.i64.wrap (0 : Int) = 0 := by decide
      have s6 : (0 : Int).tmod 3 = 0 := by decide
      have s7 : IntKind.i64.wrap (1 : Int) = 1 := by decide
      have s8 : (1 : Int).tmod 3 = 1 := by decide
      have s9 : IntKind.i64.wrap (2 : Int) = 2 := by decide
      have s10 : (2 : Int).tmod 3 = 2 := by decide
      have s11 : IntKind.i64.wrap (3 : Int) = 3 := by decide
      have s12 : (3 : Int).tmod 3 = 0 := by decide
      have s13 : IntKind.i64.wrap (4 : Int) = 4 := by decide
      have s14 : (4 : Int).tmod 3 = 1 := by decide
      go_wp2
      refine wp_region_later (by kernel_rfl) (by kernel_rfl) (fun hlx => ?_)
      repeat (go_big_quiet_step ((go_at_call 65; with_reducible exact Later.call (HC.out _))))
      refine wpQuiet_nil ?_
      clear hlx
      intro w3 hbw3
      obtain ⟨hzw3, hcw3, hfw3⟩ := bfacts hbw3; (try simp at hzw3 hcw3 hfw3); (try (have : w.heap.size < w3.heap.size := by omega)); (try (have : w.heap.size + 1 < w3.heap.size := by omega)); (try (have : w.heap.size + 1 + 1 < w3.heap.size := by omega)); (try (have : w.heap.size + 1 + 1 + 1 < w3.heap.size := by omega))
      go_wp2
      go_roundw
      case rel => exact ⟨3, s + lv, by omega, by go_num, rfl, HN.out, HA.out.below hbw3 hlA, HB.out.below hbw3 hlB, HBR.out.trans (hbw3.mono hzr)⟩
      case measure => simp [intOf]
    · have HN : Hid (s = plN S t L p 3) := hs
      clear hs hsb
      go_wp2_with fail
      refine (HT.out _ hbr).mono ?_
      rintro e w3 ⟨rfl, hbw3⟩
      obtain ⟨hzw3, hcw3, hfw3⟩ := bfacts hbw3; (try simp at hzw3 hcw3 hfw3); (try (have : w.heap.size < w3.heap.size := by omega)); (try (have : w.heap.size + 1 < w3.heap.size := by omega)); (try (have : w.heap.size + 1 + 1 < w3.heap.size := by omega)); (try (have : w.heap.size + 1 + 1 + 1 < w3.heap.size := by omega))
      go_wp2
      go_ret2
      exact ⟨by rw [← HN.out] <;> rfl, by repeat' (first | (with_reducible exact Below.refl _ _) | (with_reducible assumption) | (with_reducible refine Below.alloc ?_ ?_ _) | (with_reducible refine Below.drew ?_) | (with_reducible refine Below.setCell ?_ ?_ _) | (with_reducible refine Below.stepB (by assumption) ?_ ?_) | go_size)⟩
end Go.Proofs.Ytfflbkmncnaffaa
