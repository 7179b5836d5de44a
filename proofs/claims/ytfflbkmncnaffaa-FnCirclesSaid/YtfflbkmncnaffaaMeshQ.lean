/- Contracts: the pairs of neighbors that are not good: the program's and the reference's. -/
import Derived.Test.YtfflbkmncnaffaaMeshO
import Derived.Test.YtfflbkmncnaffaaCircle
import Derived.Test.YtfflbkmncnaffaaPairO
namespace Go.Proofs.Ytfflbkmncnaffaa
open Go.RowKit
def circQ (a b c p : SP) : Bool := inCircle a.x a.y b.x b.y c.x c.y p.x p.y
def badP (S : Nat → SP) (T : Nat → Nat → Int) (i k : Nat) : Bool := nbB (T i) (T k) && circQ (cn S (T i) 0) (cn S (T i) 1) (cn S (T i) 2) (S (corN (T i) (T k) 3).toNat)
def rowL (S : Nat → SP) (T : Nat → Nat → Int) (i m : Nat) : List (Int × Int) := pick (fun k => decide (i < k) && badP S T i k) (fun k => ((i : Int), (k : Int))) m
def badL (S : Nat → SP) (T : Nat → Nat → Int) (m : Nat) : Nat → List (Int × Int)
  | 0 => []
  | i + 1 => badL S T m i ++ rowL S T i m
def badO (S : Nat → SP) (n : Nat) (T : Nat → Nat → Int) (m : Nat) : List (Int × Int) := if meshB S n T m = true then badL S T m m else []
theorem badL_len {S : Nat → SP} {T : Nat → Nat → Int} {m : Nat} (hm : m ≤ 12) : ∀ i, (badL S T m i).length ≤ 12 * i
  | 0 => by simp [badL]
  | i + 1 => by
    have h := badL_len (S := S) (T := T) hm i
    have h2 : (rowL S T i m).length ≤ m := pick_len m
    rw [badL, List.length_append]
    omega
theorem badO_len (S : Nat → SP) (n : Nat) (T : Nat → Nat → Int) (m : Nat) : (badO S n T m).length ≤ 1048576 := by
  unfold badO
  split
  · rename_i h
    have h12 := (meshB_parts h).2.2.1
    have := badL_len (S := S) (T := T) (m := m) h12.2 m
    omega
  · simp
theorem rowL_start (S : Nat → SP) (T : Nat → Nat → Int) (i : Nat) : rowL S T i (i + 1) = [] :=
  List.length_eq_zero_iff.1 (pick_none.2 fun k hk => by
    have h : decide (i < k) = false := by simp; omega
    rw [h]
    rfl)
theorem rowL_yes {S : Nat → SP} {T : Nat → Nat → Int} {i k : Nat} (h : i < k) (hb : badP S T i k = true) : rowL S T i (k + 1) = rowL S T i k ++ [((i : Int), (k : Int))] := pick_hit (by simp [h, hb])
theorem rowL_no {S : Nat → SP} {T : Nat → Nat → Int} {i k : Nat} (hb : badP S T i k = false) : rowL S T i (k + 1) = rowL S T i k := pick_miss (by simp [hb])
theorem corN_idx {n : Nat} (hn : 0 < n) {a b : Nat → Int} (hb : idxB n b = true) : ∀ k, k ≤ 3 → ∃ q : Nat, q < n ∧ corN a b k = q
  | 0, _ => ⟨0, hn, rfl⟩
  | k + 1, hk => by
    rw [corN]
    split
    · exact corN_idx hn hb k (by omega)
    · have h := idxB_at hb k (by omega)
      exact ⟨(b k).toNat, by omega, by omega⟩
set_option maxRecDepth 100000 in
set_option maxHeartbeats 1000000 in
theorem BadPairs_any (A : Option Addr) (n c : Nat) (S : Nat → SP) (A2 : Option Addr) (m c2 : Nat) (T : Nat → Nat → Int) (w : World) (hS : SlSP w A n S) (hS2 : SlT w A2 m T) (hn : n ≤ 1048576) (hm : m ≤ 1048576) (hc : n ≤ c) (hc2 : m ≤ c2) :
    Calls Try.prog 36 #[.slice A n c, .slice A2 m c2] w fun e w' => PairsOut w (badO S n T m) (meshB S n T m) e w' := by
  have hg := Lib.hid (fun W (hb : Below w.heap.size w W) => IsMesh_any A n c S A2 m c2 T W (hS.below hb) (hS2.below hb) hn hm hc hc2)
  have hp := fun h => meshB_parts (S := S) (n := n) (T := T) (m := m) h
  have ho : badO S n T m = if meshB S n T m = true then badL S T m m else [] := rfl
  have HS := Lib.hid hS
  have HS2 := Lib.hid hS2
  generalize badO S n T m = o at ho ⊢
  generalize meshB S n T m = q at hg ho hp ⊢
  clear hS hS2
  cases q
  · have HO : Hid (o = []) := ho
    clear ho hp
    go_enter Try.func36, Try.ntmps36
    go_wp2_with fail
    refine (hg.out _ (by repeat' (first | (with_reducible exact Below.refl _ _) | (with_reducible assumption) | (with_reducible refine Below.alloc ?_ ?_ _) | (with_reducible refine Below.drew ?_) | (with_reducible refine Below.setCell ?_ ?_ _) | (with_reducible refine Below.stepB (by assumption) ?_ ?_) | go_size))).mono ?_
    rintro e w1 ⟨rfl, hbw1⟩
    obtain ⟨hzw1, hcw1, hfw1⟩ := bfacts hbw1; (try simp at hzw1 hcw1 hfw1); (try (have : w.heap.size < w1.heap.size := by omega)); (try (have : w.heap.size + 1 < w1.heap.size := by omega)); (try (have : w.heap.size + 1 + 1 < w1.heap.size := by omega)); (try (have : w.heap.size + 1 + 1 + 1 < w1.heap.size := by omega))
    go_wp2
    go_ret2
    exact PairsOut.none HO.out rfl (by repeat' (first | (with_reducible exact Below.refl _ _) | (with_reducible assumption) | (with_reducible refine Below.alloc ?_ ?_ _) | (with_reducible refine Below.drew ?_) | (with_reducible refine Below.setCell ?_ ?_ _) | (with_reducible refine Below.stepB (by assumption) ?_ ?_) | go_size))
  have HO : Hid (o = badL S T m m) := ho
  obtain ⟨hsp, ⟨hn3, -⟩, ⟨-, hm12⟩, htr⟩ := hp rfl
  have HSP := Lib.hid hsp
  have HIX := Lib.hid (fun k hk => trB_idx (htr k hk))
  have hlen := Lib.hid (badL_len (S := S) (T := T) hm12)
  clear ho hp hsp htr
  obtain ⟨i0, hi0, hz0, hz1, hz2⟩ := info_parts pair_info
  go_enter Try.func36, Try.ntmps36
  go_wp2_with fail
  refine (hg.out _ (by repeat' (first | (with_reducible exact Below.refl _ _) | (with_reducible assumption) | (with_reducible refine Below.alloc ?_ ?_ _) | (with_reducible refine Below.drew ?_) | (with_reducible refine Below.setCell ?_ ?_ _) | (with_reducible refine Below.stepB (by assumption) ?_ ?_) | go_size))).mono ?_
  rintro e w1 ⟨rfl, hbw1⟩
  obtain ⟨hzw1, hcw1, hfw1⟩ := bfacts hbw1; (try simp at hzw1 hcw1 hfw1); (try (have : w.heap.size < w1.heap.size := by omega)); (try (have : w.heap.size + 1 < w1.heap.size := by omega)); (try (have : w.heap.size + 1 + 1 < w1.heap.size := by omega)); (try (have : w.heap.size + 1 + 1 + 1 < w1.heap.size := by omega))
  go_wp2
  go_loopw [6, 18] (fun v6 vc wr => ∃ i : Nat, i ≤ m ∧ vc = .int .i64 i ∧ wr.ownsRow w1.heap.size 59 2 v6 (badL S T m i).length (pairCells (badL S T m i)) ∧ w1.heap.size ≤ wr.heap.size ∧ Below w.heap.size w wr) (fun _ vc _ => m - (intOf vc).toNat)
  case atStart => exact ⟨0, Nat.zero_le _, rfl, ownsRow_empty w1 59 2, by simp, by repeat' (first | (with_reducible exact Below.refl _ _) | (with_reducible assumption) | (with_reducible refine Below.alloc ?_ ?_ _) | (with_reducible refine Below.drew ?_) | (with_reducible refine Below.setCell ?_ ?_ _) | (with_reducible refine Below.stepB (by assumption) ?_ ?_) | go_size)⟩
  case round =>
    obtain ⟨i, him, rfl, hO, hzz, hbr⟩ := hrel
    have hzr := hbr.size
    obtain ⟨A8, c8, rfl⟩ := ownsRow_form hO
    by_cases hi : i < m
    · have HO8 : Hid (wr.ownsRow w1.heap.size 59 2 (.slice A8 (badL S T m i ++ rowL S T i (i + 1)).length c8) (badL S T m i ++ rowL S T i (i + 1)).length (pairCells (badL S T m i ++ rowL S T i (i + 1)))) := by rw [rowL_start, List.append_nil]; exact hO
      have HL8 : Hid ((badL S T m i).length = (badL S T m i ++ rowL S T i (i + 1)).length) := by show _ = _; rw [rowL_start, List.append_nil]
      clear hO
      have HBR := Lib.hid hbr
      rw [HL8.out]
      go_wp2
      go_loopw [6, 8] (fun v6 vc wq => ∃ k : Nat, (i + 1 ≤ k ∧ k ≤ m) ∧ vc = .int .i64 k ∧ wq.ownsRow w1.heap.size 59 2 v6 (badL S T m i ++ rowL S T i k).length (pairCells (badL S T m i ++ rowL S T i k)) ∧ w1.heap.size ≤ wq.heap.size ∧ Below w.heap.size w wq) (fun _ vc _ => m - (intOf vc).toNat)
      case atStart => exact ⟨i + 1, by omega, by go_num, HO8.out, hzz, HBR.out⟩
      case round =>
        rename World => wz
        obtain ⟨wq, rfl⟩ : ∃ wq : World, wq = wz := ⟨_, rfl⟩
        obtain ⟨k, hk, rfl, hO, hzz2, hbq⟩ := hrel
        have hzq := hbq.size
        obtain ⟨A9, c9, rfl⟩ := ownsRow_form hO
        have HO9 := Lib.hid hO
        have HBQ := Lib.hid hbq
        clear hO hbr
        by_cases hlt : k < m
        · obtain ⟨b, off, rfl, hbl, hbl2, x0, x1, x2⟩ := HS2.out.at (k := k) hbq hlt
          obtain ⟨b', off', hA', _, hbl4, t0, t1, t2⟩ := HS2.out.at (k := i) hbq hi
          obtain ⟨rfl, rfl⟩ : b = b' ∧ off = off' := by simpa using hA'
          clear hA'
          have hli := hlen.out i
          have hlk : (rowL S T i k).length ≤ k := pick_len k
          have hll : (badL S T m i ++ rowL S T i k).length ≤ 300 := by rw [List.length_append]; omega
          obtain ⟨q0, hq0, hcor⟩ := corN_idx (a := T i) (by omega) (HIX.out k hlt) 3 (Nat.le_refl _)
          have HE : Hid (badP S T i k = (nbB (T i) (T k) && circQ (cn S (T i) 0) (cn S (T i) 1) (cn S (T i) 2) (S q0))) := by show _ = _; rw [badP, hcor]; rfl
          have HC := Lib.hid (fun W => otherCorner_any (T i) (T k) W)
          rw [hcor] at HC
          have hid := idxB_at (HIX.out i hi)
          have s0 : spB (cn S (T i) 0) = true := HSP.out _ (by have := hid 0 (by omega); omega)
          have s1 : spB (cn S (T i) 1) = true := HSP.out _ (by have := hid 1 (by omega); omega)
          have s2 : spB (cn S (T i) 2) = true := HSP.out _ (by have := hid 2 (by omega); omega)
          have HX := Lib.hid (fun W => isInCircle_any (cn S (T i) 0).x (cn S (T i) 0).y (cn S (T i) 1).x (cn S (T i) 1).y (cn S (T i) 2).x (cn S (T i) 2).y (S q0).x (S q0).y W s0 s1 s2 (HSP.out q0 hq0))
          have HV : Hid (circQ (cn S (T i) 0) (cn S (T i) 1) (cn S (T i) 2) (S q0) = inCircle (cn S (T i) 0).x (cn S (T i) 0).y (cn S (T i) 1).x (cn S (T i) 1).y (cn S (T i) 2).x (cn S (T i) 2).y (S q0).x (S q0).y) := rfl
          rw [HV.out] at HE
          generalize inCircle (cn S (T i) 0).x (cn S (T i) 0).y (cn S (T i) 1).x (cn S (T i) 1).y (cn S (T i) 2).x (cn S (T i) 2).y (S q0).x (S q0).y = z at HX HE
          generalize nbB (T i) (T k) = y at HC HE
          clear hcor hid s0 s1 s2 HV
          obtain ⟨b5, off5, rfl⟩ := HS.out.form hq0
          have hSr : SlSP wq (some ⟨b5, off5, none⟩) n S := HS.out.below hbq
          obtain ⟨hbl5, y0, y1⟩ := hSr.pt hq0
          clear hbq hSr
          cases y
          · have HN : Hid (badP S T i k = false) := by show _ = _; rw [HE.out]; rfl
            go_wp2_with fail
            refine wp_region_later (by kernel_rfl) (by kernel_rfl) (fun hlx => ?_)
            repeat (go_big_quiet_step ((go_at_call 91; with_reducible exact Later.call (HC.out _))))
            refine wpQuiet_nil ?_
            clear hlx
            intro w3 hbw3
            obtain ⟨hzw3, hcw3, hfw3⟩ := bfacts hbw3; (try simp at hzw3 hcw3 hfw3); (try (have : w.heap.size < w3.heap.size := by omega)); (try (have : w.heap.size + 1 < w3.heap.size := by omega)); (try (have : w.heap.size + 1 + 1 < w3.heap.size := by omega)); (try (have : w.heap.size + 1 + 1 + 1 < w3.heap.size := by omega))
            go_wp2
            refine wp_region_later (by kernel_rfl) (by kernel_rfl) (fun hlx => ?_)
            repeat (go_big_quiet_step (fail))
            refine wpQuiet_nil ?_
            clear hlx
            intro w4 hbw4
            obtain ⟨hzw4, hcw4, hfw4⟩ := bfacts hbw4; (try simp at hzw4 hcw4 hfw4); (try (have : w.heap.size < w4.heap.size := by omega)); (try (have : w.heap.size + 1 < w4.heap.size := by omega)); (try (have : w.heap.size + 1 + 1 < w4.heap.size := by omega)); (try (have : w.heap.size + 1 + 1 + 1 < w4.heap.size := by omega))
            go_wp2
            go_roundw
            case rel => exact ⟨k + 1, by omega, by go_num, by rw [rowL_no HN.out]; exact ownsRow_below HO9.out (by repeat' (first | (with_reducible exact Below.refl _ _) | (with_reducible assumption) | (with_reducible refine Below.alloc ?_ ?_ _) | (with_reducible refine Below.drew ?_) | (with_reducible refine Below.setCell ?_ ?_ _) | (with_reducible refine Below.stepB (by assumption) ?_ ?_) | go_size)), by omega, by have hbq := HBQ.out; repeat' (first | (with_reducible exact Below.refl _ _) | (with_reducible assumption) | (with_reducible refine Below.alloc ?_ ?_ _) | (with_reducible refine Below.drew ?_) | (with_reducible refine Below.setCell ?_ ?_ _) | (with_reducible refine Below.stepB (by assumption) ?_ ?_) | go_size)⟩
            case measure => simp [intOf]; omega
          go_wp2_with fail
          refine wp_region_later (by kernel_rfl) (by kernel_rfl) (fun hlx => ?_)
          repeat (go_big_quiet_step ((go_at_call 91; with_reducible exact Later.call (HC.out _))))
          refine wpQuiet_nil ?_
          clear hlx
          intro w3 hbw3
          obtain ⟨hzw3, hcw3, hfw3⟩ := bfacts hbw3; (try simp at hzw3 hcw3 hfw3); (try (have : w.heap.size < w3.heap.size := by omega)); (try (have : w.heap.size + 1 < w3.heap.size := by omega)); (try (have : w.heap.size + 1 + 1 < w3.heap.size := by omega)); (try (have : w.heap.size + 1 + 1 + 1 < w3.heap.size := by omega))
          have HB3 : Hid (Below w.heap.size w w3) := HBQ.out.trans (hbw3.mono hzq)
          obtain ⟨b6, off6, hA6, _, hbl6, t0, t1, t2⟩ := HS2.out.at (k := i) HB3.out hi
          obtain ⟨rfl, rfl⟩ : b = b6 ∧ off = off6 := by simpa using hA6
          have hS3 : SlSP w3 (some ⟨b5, off5, none⟩) n S := HS.out.below HB3.out
          obtain ⟨hbl7, y0, y1⟩ := hS3.pt hq0
          clear hA6 hS3 hcw3 x0 x1 x2
          have HCO := Lib.hid (fun (x : Later w3) => cornersOf_any (some ⟨b5, off5, none⟩) n c S (T i) x.w (HS.out.below (Later.old x HB3.out (by omega))) hn (HIX.out i hi))
          cases z
          · have HN : Hid (badP S T i k = false) := by show _ = _; rw [HE.out]; rfl
            go_wp2_with fail
            refine wp_region_later (by kernel_rfl) (by kernel_rfl) (fun hlx => ?_)
            repeat (go_big_quiet_step ((first | (go_at_call 84; with_reducible exact Later.call (HCO.out _)) | (go_at_call 69; with_reducible exact Later.call (HX.out _)))))
            refine wpQuiet_nil ?_
            clear hlx
            intro w4 hbw4
            obtain ⟨hzw4, hcw4, hfw4⟩ := bfacts hbw4; (try simp at hzw4 hcw4 hfw4); (try (have : w.heap.size < w4.heap.size := by omega)); (try (have : w.heap.size + 1 < w4.heap.size := by omega)); (try (have : w.heap.size + 1 + 1 < w4.heap.size := by omega)); (try (have : w.heap.size + 1 + 1 + 1 < w4.heap.size := by omega))
            go_wp2
            go_roundw
            case rel => exact ⟨k + 1, by omega, by go_num, by rw [rowL_no HN.out]; exact ownsRow_below HO9.out (by repeat' (first | (with_reducible exact Below.refl _ _) | (with_reducible assumption) | (with_reducible refine Below.alloc ?_ ?_ _) | (with_reducible refine Below.drew ?_) | (with_reducible refine Below.setCell ?_ ?_ _) | (with_reducible refine Below.stepB (by assumption) ?_ ?_) | go_size)), by omega, by have hbq := HBQ.out; repeat' (first | (with_reducible exact Below.refl _ _) | (with_reducible assumption) | (with_reducible refine Below.alloc ?_ ?_ _) | (with_reducible refine Below.drew ?_) | (with_reducible refine Below.setCell ?_ ?_ _) | (with_reducible refine Below.stepB (by assumption) ?_ ?_) | go_size)⟩
            case measure => simp [intOf]; omega
          · have HN : Hid (badP S T i k = true) := by show _ = _; rw [HE.out]; rfl
            go_wp2_with fail
            refine wp_region_later (by kernel_rfl) (by kernel_rfl) (fun hlx => ?_)
            repeat (go_big_quiet_step ((first | (go_at_call 84; with_reducible exact Later.call (HCO.out _)) | (go_at_call 69; with_reducible exact Later.call (HX.out _)))))
            refine wpQuiet_nil ?_
            clear hlx
            intro w4 hbw4
            obtain ⟨hzw4, hcw4, hfw4⟩ := bfacts hbw4; (try simp at hzw4 hcw4 hfw4); (try (have : w.heap.size < w4.heap.size := by omega)); (try (have : w.heap.size + 1 < w4.heap.size := by omega)); (try (have : w.heap.size + 1 + 1 < w4.heap.size := by omega)); (try (have : w.heap.size + 1 + 1 + 1 < w4.heap.size := by omega))
            have hO4 := Lib.hid (ownsRow_below HO9.out (by repeat' (first | (with_reducible exact Below.refl _ _) | (with_reducible assumption) | (with_reducible refine Below.alloc ?_ ?_ _) | (with_reducible refine Below.drew ?_) | (with_reducible refine Below.setCell ?_ ?_ _) | (with_reducible refine Below.stepB (by assumption) ?_ ?_) | go_size)) : w4.ownsRow w1.heap.size 59 2 _ _ _)
            go_wp2_with (at_builtin; refine wpList_append_pair _ rfl _ _ 55 rfl w1.heap.size 59 i0 Try.underlying55 hi0 hz0 hz1 hz2 _ _ _ rfl (hO4.out.alloc _) _ _ _ ((i : Int)) ((k : Int)) rfl ?_ ?_ ?_ ?_ ?_; go_must (focus (simp; done)); go_must (focus (simp; done)); go_must (focus omega); go_must (focus (simp; omega)); intro v9 w5 hOw5 hbw5; have hzw5 := hbw5.size; (try simp at hzw5))
            go_roundw
            case rel => exact ⟨k + 1, by omega, by go_num, by rw [rowL_yes (by omega) HN.out, ← List.append_assoc, pairCells_snoc, List.length_append]; exact hOw5, by omega, by have hbq := HBQ.out; repeat' (first | (with_reducible exact Below.refl _ _) | (with_reducible assumption) | (with_reducible refine Below.alloc ?_ ?_ _) | (with_reducible refine Below.drew ?_) | (with_reducible refine Below.setCell ?_ ?_ _) | (with_reducible refine Below.stepB (by assumption) ?_ ?_) | go_size)⟩
            case measure => simp [intOf]; omega
        · obtain rfl : k = m := by omega
          have HO10 : Hid (wq.ownsRow w1.heap.size 59 2 (.slice A9 (badL S T k (i + 1)).length c9) (badL S T k (i + 1)).length (pairCells (badL S T k (i + 1)))) := HO9.out
          go_wp2
          go_roundw
          case rel => exact ⟨i + 1, by omega, by go_num, HO10.out, hzz2, HBQ.out⟩
          case measure => simp [intOf]; omega
    · obtain rfl : i = m := by omega
      go_wp2
      go_ret2
      exact PairsOut.row hO HO.out rfl (by omega) hbr
set_option maxRecDepth 100000 in
set_option maxHeartbeats 1000000 in
theorem specBad_any (A : Option Addr) (n c : Nat) (S : Nat → SP) (A2 : Option Addr) (m c2 : Nat) (T : Nat → Nat → Int) (w : World) (hS : SlSP w A n S) (hS2 : SlT w A2 m T) (hn : n ≤ 1048576) (hm : m ≤ 1048576) :
    Calls Try.prog 37 #[.slice A n c, .slice A2 m c2] w fun e w' => PairsOut w (badO S n T m) (meshB S n T m) e w' := by
  have hg := Lib.hid (fun W (hb : Below w.heap.size w W) => l15Good_any A n c S A2 m c2 T W (hS.below hb) (hS2.below hb) hn hm)
  have hp := fun h => meshB_parts (S := S) (n := n) (T := T) (m := m) h
  have ho : badO S n T m = if meshB S n T m = true then badL S T m m else [] := rfl
  have HS := Lib.hid hS
  have HS2 := Lib.hid hS2
  generalize badO S n T m = o at ho ⊢
  generalize meshB S n T m = q at hg ho hp ⊢
  clear hS hS2
  cases q
  · have HO : Hid (o = []) := ho
    clear ho hp
    go_enter Try.func37, Try.ntmps37
    go_wp2_with fail
    refine (hg.out _ (by repeat' (first | (with_reducible exact Below.refl _ _) | (with_reducible assumption) | (with_reducible refine Below.alloc ?_ ?_ _) | (with_reducible refine Below.drew ?_) | (with_reducible refine Below.setCell ?_ ?_ _) | (with_reducible refine Below.stepB (by assumption) ?_ ?_) | go_size))).mono ?_
    rintro e w1 ⟨rfl, hbw1⟩
    obtain ⟨hzw1, hcw1, hfw1⟩ := bfacts hbw1; (try simp at hzw1 hcw1 hfw1); (try (have : w.heap.size < w1.heap.size := by omega)); (try (have : w.heap.size + 1 < w1.heap.size := by omega)); (try (have : w.heap.size + 1 + 1 < w1.heap.size := by omega)); (try (have : w.heap.size + 1 + 1 + 1 < w1.heap.size := by omega))
    go_wp2
    go_ret2
    exact PairsOut.none HO.out rfl (by repeat' (first | (with_reducible exact Below.refl _ _) | (with_reducible assumption) | (with_reducible refine Below.alloc ?_ ?_ _) | (with_reducible refine Below.drew ?_) | (with_reducible refine Below.setCell ?_ ?_ _) | (with_reducible refine Below.stepB (by assumption) ?_ ?_) | go_size))
  have HO : Hid (o = badL S T m m) := ho
  obtain ⟨hsp, ⟨hn3, -⟩, ⟨-, hm12⟩, htr⟩ := hp rfl
  have HSP := Lib.hid hsp
  have HIX := Lib.hid (fun k hk => trB_idx (htr k hk))
  have hlen := Lib.hid (badL_len (S := S) (T := T) hm12)
  clear ho hp hsp htr
  obtain ⟨i0, hi0, hz0, hz1, hz2⟩ := info_parts pair_info
  go_enter Try.func37, Try.ntmps37
  go_wp2_with fail
  refine (hg.out _ (by repeat' (first | (with_reducible exact Below.refl _ _) | (with_reducible assumption) | (with_reducible refine Below.alloc ?_ ?_ _) | (with_reducible refine Below.drew ?_) | (with_reducible refine Below.setCell ?_ ?_ _) | (with_reducible refine Below.stepB (by assumption) ?_ ?_) | go_size))).mono ?_
  rintro e w1 ⟨rfl, hbw1⟩
  obtain ⟨hzw1, hcw1, hfw1⟩ := bfacts hbw1; (try simp at hzw1 hcw1 hfw1); (try (have : w.heap.size < w1.heap.size := by omega)); (try (have : w.heap.size + 1 < w1.heap.size := by omega)); (try (have : w.heap.size + 1 + 1 < w1.heap.size := by omega)); (try (have : w.heap.size + 1 + 1 + 1 < w1.heap.size := by omega))
  have hO0 := ownsRow_below (ownsRow_empty w 59 2) hbw1
  go_wp2
  go_loopw [6, 7] (fun v6 vc wr => ∃ i : Nat, i ≤ m ∧ vc = .int .i64 i ∧ wr.ownsRow w.heap.size 59 2 v6 (badL S T m i).length (pairCells (badL S T m i)) ∧ Below w.heap.size w wr) (fun _ vc _ => m - (intOf vc).toNat)
  case atStart => exact ⟨0, Nat.zero_le _, rfl, hO0, by repeat' (first | (with_reducible exact Below.refl _ _) | (with_reducible assumption) | (with_reducible refine Below.alloc ?_ ?_ _) | (with_reducible refine Below.drew ?_) | (with_reducible refine Below.setCell ?_ ?_ _) | (with_reducible refine Below.stepB (by assumption) ?_ ?_) | go_size)⟩
  case round =>
    clear hO0
    obtain ⟨i, him, rfl, hO, hbr⟩ := hrel
    have hzr := hbr.size
    obtain ⟨A8, c8, rfl⟩ := ownsRow_form hO
    by_cases hi : i < m
    · have HO8 : Hid (wr.ownsRow w.heap.size 59 2 (.slice A8 (badL S T m i ++ rowL S T i (i + 1)).length c8) (badL S T m i ++ rowL S T i (i + 1)).length (pairCells (badL S T m i ++ rowL S T i (i + 1)))) := by rw [rowL_start, List.append_nil]; exact hO
      have HL8 : Hid ((badL S T m i).length = (badL S T m i ++ rowL S T i (i + 1)).length) := by show _ = _; rw [rowL_start, List.append_nil]
      clear hO
      have HBR := Lib.hid hbr
      rw [HL8.out]
      go_wp2
      go_loopw [6, 8] (fun v6 vc wq => ∃ k : Nat, (i + 1 ≤ k ∧ k ≤ m) ∧ vc = .int .i64 k ∧ wq.ownsRow w.heap.size 59 2 v6 (badL S T m i ++ rowL S T i k).length (pairCells (badL S T m i ++ rowL S T i k)) ∧ Below w.heap.size w wq) (fun _ vc _ => m - (intOf vc).toNat)
      case atStart => exact ⟨i + 1, by omega, by go_num, HO8.out, HBR.out⟩
      case round =>
        rename World => wz
        obtain ⟨wq, rfl⟩ : ∃ wq : World, wq = wz := ⟨_, rfl⟩
        obtain ⟨k, hk, rfl, hO, hbq⟩ := hrel
        have hzq := hbq.size
        obtain ⟨A9, c9, rfl⟩ := ownsRow_form hO
        have HO9 := Lib.hid hO
        have HBQ := Lib.hid hbq
        clear hO hbr
        by_cases hlt : k < m
        · obtain ⟨b, off, rfl, hbl, hbl2, x0, x1, x2⟩ := HS2.out.at (k := k) hbq hlt
          obtain ⟨b', off', hA', _, hbl4, t0, t1, t2⟩ := HS2.out.at (k := i) hbq hi
          obtain ⟨rfl, rfl⟩ : b = b' ∧ off = off' := by simpa using hA'
          clear hA'
          have hli := hlen.out i
          have hlk : (rowL S T i k).length ≤ k := pick_len k
          have hll : (badL S T m i ++ rowL S T i k).length ≤ 300 := by rw [List.length_append]; omega
          obtain ⟨q0, hq0, hcor⟩ := corN_idx (a := T i) (by omega) (HIX.out k hlt) 3 (Nat.le_refl _)
          have HE : Hid (badP S T i k = (nbB (T i) (T k) && circQ (cn S (T i) 0) (cn S (T i) 1) (cn S (T i) 2) (S q0))) := by show _ = _; rw [badP, hcor]; rfl
          have HC := Lib.hid (fun W => l15Third_any (T i) (T k) W)
          rw [hcor] at HC
          have hid := idxB_at (HIX.out i hi)
          have s0 : spB (cn S (T i) 0) = true := HSP.out _ (by have := hid 0 (by omega); omega)
          have s1 : spB (cn S (T i) 1) = true := HSP.out _ (by have := hid 1 (by omega); omega)
          have s2 : spB (cn S (T i) 2) = true := HSP.out _ (by have := hid 2 (by omega); omega)
          have HX := Lib.hid (fun W => l15Circle_any (cn S (T i) 0).x (cn S (T i) 0).y (cn S (T i) 1).x (cn S (T i) 1).y (cn S (T i) 2).x (cn S (T i) 2).y (S q0).x (S q0).y W s0 s1 s2 (HSP.out q0 hq0))
          have HV : Hid (circQ (cn S (T i) 0) (cn S (T i) 1) (cn S (T i) 2) (S q0) = inCircle (cn S (T i) 0).x (cn S (T i) 0).y (cn S (T i) 1).x (cn S (T i) 1).y (cn S (T i) 2).x (cn S (T i) 2).y (S q0).x (S q0).y) := rfl
          rw [HV.out] at HE
          generalize inCircle (cn S (T i) 0).x (cn S (T i) 0).y (cn S (T i) 1).x (cn S (T i) 1).y (cn S (T i) 2).x (cn S (T i) 2).y (S q0).x (S q0).y = z at HX HE
          generalize nbB (T i) (T k) = y at HC HE
          clear hcor hid s0 s1 s2 HV
          obtain ⟨a0, a1, a2, ha0, ha1, ha2, e0, e1, e2⟩ := idxB_nat (HIX.out i hi)
          have ec0 : cn S (T i) 0 = S a0 := by rw [cn, e0]; rfl
          have ec1 : cn S (T i) 1 = S a1 := by rw [cn, e1]; rfl
          have ec2 : cn S (T i) 2 = S a2 := by rw [cn, e2]; rfl
          rw [ec0, ec1, ec2] at HX
          rw [e0, e1, e2] at HC
          rw [e0] at t0
          rw [e1] at t1
          rw [e2] at t2
          obtain ⟨b5, off5, rfl⟩ := HS.out.form hq0
          clear hbq ec0 ec1 ec2 e0 e1 e2
          cases y
          · have HN : Hid (badP S T i k = false) := by show _ = _; rw [HE.out]; rfl
            go_wp2_with fail
            refine wp_region_later (by kernel_rfl) (by kernel_rfl) (fun hlx => ?_)
            repeat (go_big_quiet_step ((go_at_call 93; with_reducible exact Later.call (HC.out _))))
            refine wpQuiet_nil ?_
            clear hlx
            intro w3 hbw3
            obtain ⟨hzw3, hcw3, hfw3⟩ := bfacts hbw3; (try simp at hzw3 hcw3 hfw3); (try (have : w.heap.size < w3.heap.size := by omega)); (try (have : w.heap.size + 1 < w3.heap.size := by omega)); (try (have : w.heap.size + 1 + 1 < w3.heap.size := by omega)); (try (have : w.heap.size + 1 + 1 + 1 < w3.heap.size := by omega))
            go_wp2
            refine wp_region_later (by kernel_rfl) (by kernel_rfl) (fun hlx => ?_)
            repeat (go_big_quiet_step (fail))
            refine wpQuiet_nil ?_
            clear hlx
            intro w4 hbw4
            obtain ⟨hzw4, hcw4, hfw4⟩ := bfacts hbw4; (try simp at hzw4 hcw4 hfw4); (try (have : w.heap.size < w4.heap.size := by omega)); (try (have : w.heap.size + 1 < w4.heap.size := by omega)); (try (have : w.heap.size + 1 + 1 < w4.heap.size := by omega)); (try (have : w.heap.size + 1 + 1 + 1 < w4.heap.size := by omega))
            go_wp2
            go_roundw
            case rel => exact ⟨k + 1, by omega, by go_num, by rw [rowL_no HN.out]; exact ownsRow_below HO9.out (by repeat' (first | (with_reducible exact Below.refl _ _) | (with_reducible assumption) | (with_reducible refine Below.alloc ?_ ?_ _) | (with_reducible refine Below.drew ?_) | (with_reducible refine Below.setCell ?_ ?_ _) | (with_reducible refine Below.stepB (by assumption) ?_ ?_) | go_size)), by have hbq := HBQ.out; repeat' (first | (with_reducible exact Below.refl _ _) | (with_reducible assumption) | (with_reducible refine Below.alloc ?_ ?_ _) | (with_reducible refine Below.drew ?_) | (with_reducible refine Below.setCell ?_ ?_ _) | (with_reducible refine Below.stepB (by assumption) ?_ ?_) | go_size)⟩
            case measure => simp [intOf]; omega
          go_wp2_with fail
          refine wp_region_later (by kernel_rfl) (by kernel_rfl) (fun hlx => ?_)
          repeat (go_big_quiet_step ((go_at_call 93; with_reducible exact Later.call (HC.out _))))
          refine wpQuiet_nil ?_
          clear hlx
          intro w3 hbw3
          obtain ⟨hzw3, hcw3, hfw3⟩ := bfacts hbw3; (try simp at hzw3 hcw3 hfw3); (try (have : w.heap.size < w3.heap.size := by omega)); (try (have : w.heap.size + 1 < w3.heap.size := by omega)); (try (have : w.heap.size + 1 + 1 < w3.heap.size := by omega)); (try (have : w.heap.size + 1 + 1 + 1 < w3.heap.size := by omega))
          have HB3 : Hid (Below w.heap.size w w3) := Lib.hid (by have hbq := HBQ.out; repeat' (first | (with_reducible exact Below.refl _ _) | (with_reducible assumption) | (with_reducible refine Below.alloc ?_ ?_ _) | (with_reducible refine Below.drew ?_) | (with_reducible refine Below.setCell ?_ ?_ _) | (with_reducible refine Below.stepB (by assumption) ?_ ?_) | go_size))
          have HQ3 : Hid (Below wq.heap.size wq w3) := Lib.hid (by repeat' (first | (with_reducible exact Below.refl _ _) | (with_reducible assumption) | (with_reducible refine Below.alloc ?_ ?_ _) | (with_reducible refine Below.drew ?_) | (with_reducible refine Below.setCell ?_ ?_ _) | (with_reducible refine Below.stepB (by assumption) ?_ ?_) | go_size))
          have hB8 : Blk w3 wq.heap.size 41 #[.int .i64 a0, .int .i64 a1, .int .i64 a2] := (blk_newP wq _ _ rfl).below hbw3 (by simp)
          have g0 : w3.cell? ⟨wq.heap.size, 0, none⟩ = some (.int .i64 a0) := hB8.cell 0
          have g1 : w3.cell? ⟨wq.heap.size, 1, none⟩ = some (.int .i64 a1) := hB8.cell 1
          have g2 : w3.cell? ⟨wq.heap.size, 2, none⟩ = some (.int .i64 a2) := hB8.cell 2
          have hl8 := hB8.lt
          have hS3 : SlSP w3 (some ⟨b5, off5, none⟩) n S := HS.out.below HB3.out
          obtain ⟨hbl7, y0, y1⟩ := hS3.pt hq0
          obtain ⟨_, p0, p1⟩ := hS3.pt ha0
          obtain ⟨_, q0', q1⟩ := hS3.pt ha1
          obtain ⟨_, r0, r1⟩ := hS3.pt ha2
          clear hS3 hB8 hcw3 hbw3 x0 x1 x2 t0 t1 t2
          have hz3 := HQ3.out.size
          cases z
          · have HN : Hid (badP S T i k = false) := by show _ = _; rw [HE.out]; rfl
            go_wp2_with fail
            refine wp_region_later (by kernel_rfl) (by kernel_rfl) (fun hlx => ?_)
            repeat (go_big_quiet_step ((go_at_call 66; with_reducible exact Later.call (HX.out _))))
            refine wpQuiet_nil ?_
            clear hlx
            intro w4 hbw4
            obtain ⟨hzw4, hcw4, hfw4⟩ := bfacts hbw4; (try simp at hzw4 hcw4 hfw4); (try (have : w.heap.size < w4.heap.size := by omega)); (try (have : w.heap.size + 1 < w4.heap.size := by omega)); (try (have : w.heap.size + 1 + 1 < w4.heap.size := by omega)); (try (have : w.heap.size + 1 + 1 + 1 < w4.heap.size := by omega))
            have HQ4 : Hid (Below wq.heap.size wq w4) := HQ3.out.trans (hbw4.mono (by omega))
            go_wp2
            go_roundw
            case rel => exact ⟨k + 1, by omega, by go_num, by rw [rowL_no HN.out]; exact ownsRow_below HO9.out HQ4.out, HBQ.out.trans (HQ4.out.mono hzq)⟩
            case measure => simp [intOf]; omega
          · have HN : Hid (badP S T i k = true) := by show _ = _; rw [HE.out]; rfl
            go_wp2_with fail
            refine wp_region_later (by kernel_rfl) (by kernel_rfl) (fun hlx => ?_)
            repeat (go_big_quiet_step ((go_at_call 66; with_reducible exact Later.call (HX.out _))))
            refine wpQuiet_nil ?_
            clear hlx
            intro w4 hbw4
            obtain ⟨hzw4, hcw4, hfw4⟩ := bfacts hbw4; (try simp at hzw4 hcw4 hfw4); (try (have : w.heap.size < w4.heap.size := by omega)); (try (have : w.heap.size + 1 < w4.heap.size := by omega)); (try (have : w.heap.size + 1 + 1 < w4.heap.size := by omega)); (try (have : w.heap.size + 1 + 1 + 1 < w4.heap.size := by omega))
            have HQ4 : Hid (Below wq.heap.size wq w4) := HQ3.out.trans (hbw4.mono (by omega))
            have hO4 := Lib.hid (ownsRow_below HO9.out HQ4.out : w4.ownsRow w.heap.size 59 2 _ _ _)
            go_wp2_with (at_builtin; refine wpList_append_pair _ rfl _ _ 55 rfl w.heap.size 59 i0 Try.underlying55 hi0 hz0 hz1 hz2 _ _ _ rfl (hO4.out.alloc _) _ _ _ ((i : Int)) ((k : Int)) rfl ?_ ?_ ?_ ?_ ?_; go_must (focus (simp; done)); go_must (focus (simp; done)); go_must (focus omega); go_must (focus (simp; omega)); intro v9 w5 hOw5 hbw5; have hzw5 := hbw5.size; (try simp at hzw5))
            have HQ5 : Hid (Below w.heap.size wq w5) := (HQ4.out.mono hzq).trans (by repeat' (first | (with_reducible exact Below.refl _ _) | (with_reducible assumption) | (with_reducible refine Below.alloc ?_ ?_ _) | (with_reducible refine Below.drew ?_) | (with_reducible refine Below.setCell ?_ ?_ _) | (with_reducible refine Below.stepB (by assumption) ?_ ?_) | go_size))
            go_roundw
            case rel => exact ⟨k + 1, by omega, by go_num, by rw [rowL_yes (by omega) HN.out, ← List.append_assoc, pairCells_snoc, List.length_append]; exact hOw5, HBQ.out.trans HQ5.out⟩
            case measure => simp [intOf]; omega
        · obtain rfl : k = m := by omega
          have HO10 : Hid (wq.ownsRow w.heap.size 59 2 (.slice A9 (badL S T k (i + 1)).length c9) (badL S T k (i + 1)).length (pairCells (badL S T k (i + 1)))) := HO9.out
          go_wp2
          go_roundw
          case rel => exact ⟨i + 1, by omega, by go_num, HO10.out, HBQ.out⟩
          case measure => simp [intOf]; omega
    · obtain rfl : i = m := by omega
      go_wp2
      go_ret2
      exact PairsOut.row hO HO.out rfl (by omega) hbr
theorem Bad_at (A : Option Addr) (n : Nat) (S : Nat → SP) (A2 : Option Addr) (m : Nat) (T : Nat → Nat → Int) (w : World) (hS : SlSP w A n S) (hS2 : SlT w A2 m T) (hn : n ≤ 1048576) (hm : m ≤ 1048576) :
    Calls Try.prog 36 #[.slice A n n, .slice A2 m m] w fun e w' => PairsOut w (badO S n T m) (meshB S n T m) e w' := BadPairs_any A n n S A2 m m T w hS hS2 hn hm (Nat.le_refl _) (Nat.le_refl _)
end Go.Proofs.Ytfflbkmncnaffaa
