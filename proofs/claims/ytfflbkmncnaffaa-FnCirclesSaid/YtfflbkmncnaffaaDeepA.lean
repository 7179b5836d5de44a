/- Contracts: the soundings under which the mesh is too deep: the program's and the reference's. -/
import Derived.Test.YtfflbkmncnaffaaDeep
import Derived.Test.YtfflbkmncnaffaaSoundingC
import Derived.Test.YtfflbkmncnaffaaOuts
namespace Go.Proofs.Ytfflbkmncnaffaa
open Go.RowKit
def ptSD (s : SD) : SP := ⟨s.x, s.y⟩
def tdP (S : Nat → SP) (T : Nat → Nat → Int) (m : Nat) (L : Nat → Int) (s : SD) : Bool := deOk S T m (ptSD s) && decide (lowV s * turnV S (T (triAt S T m (ptSD s)).toNat) < plN S (T (triAt S T m (ptSD s)).toNat) L (ptSD s) 3)
def tdL (S : Nat → SP) (T : Nat → Nat → Int) (m : Nat) (L : Nat → Int) (f : Nat → SD) (q : Nat) : List Int := pick (fun i => tdP S T m L (f i)) (fun i => (f i).id) q
def tdB (S : Nat → SP) (n : Nat) (T : Nat → Nat → Int) (m : Nat) (L : Nat → Int) (d : Nat) (f : Nat → SD) (q : Nat) : Bool := depthsB S n T m L d && goodNAll f q
def tdO (S : Nat → SP) (n : Nat) (T : Nat → Nat → Int) (m : Nat) (L : Nat → Int) (d : Nat) (f : Nat → SD) (q : Nat) : List Int := if tdB S n T m L d f q = true then tdL S T m L f q else []
theorem tdO_len (S : Nat → SP) (n : Nat) (T : Nat → Nat → Int) (m : Nat) (L : Nat → Int) (d : Nat) (f : Nat → SD) (q : Nat) : (tdO S n T m L d f q).length ≤ q := by
  unfold tdO
  split
  · exact pick_len q
  · simp
theorem tdP_no {S : Nat → SP} {T : Nat → Nat → Int} {m : Nat} {L : Nat → Int} {s : SD} (h : triAt S T m (ptSD s) = -1) : tdP S T m L s = false := by
  rw [tdP, deOk, h]
  rfl
theorem tdP_yes {S : Nat → SP} {T : Nat → Nat → Int} {m j : Nat} {L : Nat → Int} {s : SD} (h : triAt S T m (ptSD s) = j) : tdP S T m L s = decide (lowV s * turnV S (T j) < plN S (T j) L (ptSD s) 3) := by
  rw [tdP, deOk, h]
  simp
set_option maxRecDepth 100000 in
theorem TooDeep_any (A : Option Addr) (n c : Nat) (S : Nat → SP) (A2 : Option Addr) (m c2 : Nat) (T : Nat → Nat → Int) (A3 : Option Addr) (d c3 : Nat) (L : Nat → Int) (A4 : Option Addr) (q c4 : Nat) (f : Nat → SD) (w : World) (hS : SlSP w A n S) (hS2 : SlT w A2 m T) (hS3 : SlI w A3 d L) (hS4 : SlSD w A4 q f) (hn : n ≤ 1048576) (hm : m ≤ 1048576) (hd : d ≤ 1048576) (hq : q ≤ 1048576) (hc : n ≤ c) (hc2 : m ≤ c2) :
    Calls Try.prog 40 #[.slice A n c, .slice A2 m c2, .slice A3 d c3, .slice A4 q c4] w fun e w' => IntsOut w (tdO S n T m L d f q) (tdB S n T m L d f q) e w' := by
  have hg := Lib.hid (fun W (hb : Below w.heap.size w W) => areDepths_any A n c S A2 m c2 T A3 d c3 L W (hS.below hb) (hS2.below hb) (hS3.below hb) hn hm hd hc hc2)
  have hh := Lib.hid (fun W (hb : Below w.heap.size w W) => AreSoundings_any A4 q c4 f W (hS4.below hb) hq)
  have hp := fun h => depthsB_parts (S := S) (n := n) (T := T) (m := m) (L := L) (d := d) h
  have hp2 := fun h => goodNAll_iff (f := f) (n := q) |>.1 h
  have hv : tdB S n T m L d f q = (depthsB S n T m L d && goodNAll f q) := rfl
  have ho : tdO S n T m L d f q = if tdB S n T m L d f q = true then tdL S T m L f q else [] := rfl
  rw [hv] at ho
  generalize tdO S n T m L d f q = o at ho ⊢
  generalize tdB S n T m L d f q = bb at hv ⊢
  generalize depthsB S n T m L d = z at hg hv ho hp
  generalize goodNAll f q = z2 at hh hv ho hp2
  cases z
  · have HO : Hid (o = []) := ho
    have HV : Hid (bb = false) := hv
    clear ho hv hp hp2 hS hS2 hS3 hS4
    go_enter Try.func40, Try.ntmps40
    go_wp2_with fail
    refine (hg.out _ (by repeat' (first | (with_reducible exact Below.refl _ _) | (with_reducible assumption) | (with_reducible refine Below.alloc ?_ ?_ _) | (with_reducible refine Below.drew ?_) | (with_reducible refine Below.setCell ?_ ?_ _) | (with_reducible refine Below.stepB (by assumption) ?_ ?_) | go_size))).mono ?_
    rintro e w1 ⟨rfl, hbw1⟩
    obtain ⟨hzw1, hcw1, hfw1⟩ := bfacts hbw1; (try simp at hzw1 hcw1 hfw1); (try (have : w.heap.size < w1.heap.size := by omega)); (try (have : w.heap.size + 1 < w1.heap.size := by omega)); (try (have : w.heap.size + 1 + 1 < w1.heap.size := by omega)); (try (have : w.heap.size + 1 + 1 + 1 < w1.heap.size := by omega))
    go_wp2
    go_ret2
    exact IntsOut.none HO.out HV.out (by repeat' (first | (with_reducible exact Below.refl _ _) | (with_reducible assumption) | (with_reducible refine Below.alloc ?_ ?_ _) | (with_reducible refine Below.drew ?_) | (with_reducible refine Below.setCell ?_ ?_ _) | (with_reducible refine Below.stepB (by assumption) ?_ ?_) | go_size))
  cases z2
  · have HO : Hid (o = []) := ho
    have HV : Hid (bb = false) := hv
    clear ho hv hp hp2 hS hS2 hS3 hS4
    go_enter Try.func40, Try.ntmps40
    go_wp2_with fail
    refine (hg.out _ (by repeat' (first | (with_reducible exact Below.refl _ _) | (with_reducible assumption) | (with_reducible refine Below.alloc ?_ ?_ _) | (with_reducible refine Below.drew ?_) | (with_reducible refine Below.setCell ?_ ?_ _) | (with_reducible refine Below.stepB (by assumption) ?_ ?_) | go_size))).mono ?_
    rintro e w1 ⟨rfl, hbw1⟩
    obtain ⟨hzw1, hcw1, hfw1⟩ := bfacts hbw1; (try simp at hzw1 hcw1 hfw1); (try (have : w.heap.size < w1.heap.size := by omega)); (try (have : w.heap.size + 1 < w1.heap.size := by omega)); (try (have : w.heap.size + 1 + 1 < w1.heap.size := by omega)); (try (have : w.heap.size + 1 + 1 + 1 < w1.heap.size := by omega))
    go_wp2_with fail
    refine (hh.out _ (by repeat' (first | (with_reducible exact Below.refl _ _) | (with_reducible assumption) | (with_reducible refine Below.alloc ?_ ?_ _) | (with_reducible refine Below.drew ?_) | (with_reducible refine Below.setCell ?_ ?_ _) | (with_reducible refine Below.stepB (by assumption) ?_ ?_) | go_size))).mono ?_
    rintro e w2 ⟨rfl, hbw2⟩
    obtain ⟨hzw2, hcw2, hfw2⟩ := bfacts hbw2; (try simp at hzw2 hcw2 hfw2); (try (have : w.heap.size < w2.heap.size := by omega)); (try (have : w.heap.size + 1 < w2.heap.size := by omega)); (try (have : w.heap.size + 1 + 1 < w2.heap.size := by omega)); (try (have : w.heap.size + 1 + 1 + 1 < w2.heap.size := by omega))
    go_wp2
    go_ret2
    exact IntsOut.none HO.out HV.out (by repeat' (first | (with_reducible exact Below.refl _ _) | (with_reducible assumption) | (with_reducible refine Below.alloc ?_ ?_ _) | (with_reducible refine Below.drew ?_) | (with_reducible refine Below.setCell ?_ ?_ _) | (with_reducible refine Below.stepB (by assumption) ?_ ?_) | go_size))
  have HO : Hid (o = tdL S T m L f q) := ho
  have HV : Hid (bb = true) := hv
  obtain ⟨hmb, rfl, hdp⟩ := hp rfl
  obtain ⟨hsp, -, -, htr⟩ := meshB_parts hmb
  have hL := depB_lt hdp
  have HOK := Lib.hid (goodN_lt (hp2 rfl).1)
  have HSP := Lib.hid hsp
  have HTR := Lib.hid htr
  have HL := Lib.hid hL
  have HS := Lib.hid hS
  have HS2 := Lib.hid hS2
  have HS3 := Lib.hid hS3
  have HS4 := Lib.hid hS4
  clear ho hv hp hp2 hmb hdp hsp htr hL hS hS2 hS3 hS4
  obtain ⟨i0, hi0, hz0, hz1, hz2⟩ := info_parts int_infoC
  go_enter Try.func40, Try.ntmps40
  go_wp2_with fail
  refine (hg.out _ (by repeat' (first | (with_reducible exact Below.refl _ _) | (with_reducible assumption) | (with_reducible refine Below.alloc ?_ ?_ _) | (with_reducible refine Below.drew ?_) | (with_reducible refine Below.setCell ?_ ?_ _) | (with_reducible refine Below.stepB (by assumption) ?_ ?_) | go_size))).mono ?_
  rintro e w1 ⟨rfl, hbw1⟩
  obtain ⟨hzw1, hcw1, hfw1⟩ := bfacts hbw1; (try simp at hzw1 hcw1 hfw1); (try (have : w.heap.size < w1.heap.size := by omega)); (try (have : w.heap.size + 1 < w1.heap.size := by omega)); (try (have : w.heap.size + 1 + 1 < w1.heap.size := by omega)); (try (have : w.heap.size + 1 + 1 + 1 < w1.heap.size := by omega))
  go_wp2_with fail
  refine (hh.out _ (by repeat' (first | (with_reducible exact Below.refl _ _) | (with_reducible assumption) | (with_reducible refine Below.alloc ?_ ?_ _) | (with_reducible refine Below.drew ?_) | (with_reducible refine Below.setCell ?_ ?_ _) | (with_reducible refine Below.stepB (by assumption) ?_ ?_) | go_size))).mono ?_
  rintro e w2 ⟨rfl, hbw2⟩
  obtain ⟨hzw2, hcw2, hfw2⟩ := bfacts hbw2; (try simp at hzw2 hcw2 hfw2); (try (have : w.heap.size < w2.heap.size := by omega)); (try (have : w.heap.size + 1 < w2.heap.size := by omega)); (try (have : w.heap.size + 1 + 1 < w2.heap.size := by omega)); (try (have : w.heap.size + 1 + 1 + 1 < w2.heap.size := by omega))
  go_wp2
  go_loopw [10, 28] (fun v6 vc wr => ∃ k : Nat, k ≤ q ∧ vc = .int .i64 k ∧ wr.ownsRow w2.heap.size 3 1 v6 (tdL S T m L f k).length ((tdL S T m L f k).map (Value.int .i64)) ∧ w2.heap.size ≤ wr.heap.size ∧ Below w.heap.size w wr) (fun _ vc _ => q - (intOf vc).toNat)
  case atStart => exact ⟨0, Nat.zero_le _, rfl, ownsRow_empty w2 3 1, by simp, by repeat' (first | (with_reducible exact Below.refl _ _) | (with_reducible assumption) | (with_reducible refine Below.alloc ?_ ?_ _) | (with_reducible refine Below.drew ?_) | (with_reducible refine Below.setCell ?_ ?_ _) | (with_reducible refine Below.stepB (by assumption) ?_ ?_) | go_size)⟩
  case round =>
    obtain ⟨k, hk, rfl, hO, hzz, hbr⟩ := hrel
    have hzr := hbr.size
    have hlen : (tdL S T m L f k).length ≤ k := pick_len k
    obtain ⟨A8, c8, rfl⟩ := ownsRow_form hO
    have HO8 := Lib.hid hO
    clear hO
    by_cases hlt : k < q
    · obtain ⟨b, off, rfl, hbl, hbl2, x0, x1, x2, x3, x4, hx⟩ := HS4.out.at hbr hlt
      have hok := HOK.out k hlt
      have hps : spB (ptSD (f k)) = true := okN_spot hok
      clear hx
      rcases idxP_cases (fun i => insB S (T i) (ptSD (f k))) m with ⟨hi, -⟩ | ⟨j, hjm, hi, -⟩
      · have hj : triAt S T m (ptSD (f k)) = -1 := hi
        have HDA := Lib.hid (fun W (hb : Below w.heap.size w W) => depthAt_no A d c S A2 m c2 T A3 c3 (ptSD (f k)) W (HS.out.below hb) (HS2.out.below hb) hn hm HSP.out HTR.out hps hj)
        have HL8 : Hid (tdL S T m L f (k + 1) = tdL S T m L f k) := pick_miss (tdP_no hj)
        clear hi hj hok hps
        go_wp2_with fail
        refine (HDA.out _ (by repeat' (first | (with_reducible exact Below.refl _ _) | (with_reducible assumption) | (with_reducible refine Below.alloc ?_ ?_ _) | (with_reducible refine Below.drew ?_) | (with_reducible refine Below.setCell ?_ ?_ _) | (with_reducible refine Below.stepB (by assumption) ?_ ?_) | go_size))).mono ?_
        rintro e w3 ⟨rfl, hbw3⟩
        obtain ⟨hzw3, hcw3, hfw3⟩ := bfacts hbw3; (try simp at hzw3 hcw3 hfw3); (try (have : w.heap.size < w3.heap.size := by omega)); (try (have : w.heap.size + 1 < w3.heap.size := by omega)); (try (have : w.heap.size + 1 + 1 < w3.heap.size := by omega)); (try (have : w.heap.size + 1 + 1 + 1 < w3.heap.size := by omega))
        go_wp2
        refine wp_region_later (by kernel_rfl) (by kernel_rfl) (fun hlx => ?_)
        repeat (go_big_quiet_step (fail))
        refine wpQuiet_nil ?_
        clear hlx
        intro w4 hbw4
        obtain ⟨hzw4, hcw4, hfw4⟩ := bfacts hbw4; (try simp at hzw4 hcw4 hfw4); (try (have : w.heap.size < w4.heap.size := by omega)); (try (have : w.heap.size + 1 < w4.heap.size := by omega)); (try (have : w.heap.size + 1 + 1 < w4.heap.size := by omega)); (try (have : w.heap.size + 1 + 1 + 1 < w4.heap.size := by omega))
        go_wp2
        go_roundw
        case rel => exact ⟨k + 1, by omega, by go_num, by rw [HL8.out]; exact ownsRow_below HO8.out (by repeat' (first | (with_reducible exact Below.refl _ _) | (with_reducible assumption) | (with_reducible refine Below.alloc ?_ ?_ _) | (with_reducible refine Below.drew ?_) | (with_reducible refine Below.setCell ?_ ?_ _) | (with_reducible refine Below.stepB (by assumption) ?_ ?_) | go_size)), by omega, by repeat' (first | (with_reducible exact Below.refl _ _) | (with_reducible assumption) | (with_reducible refine Below.alloc ?_ ?_ _) | (with_reducible refine Below.drew ?_) | (with_reducible refine Below.setCell ?_ ?_ _) | (with_reducible refine Below.stepB (by assumption) ?_ ?_) | go_size)⟩
        case measure => simp [intOf]; omega
      · have hj : triAt S T m (ptSD (f k)) = j := hi
        have HDA := Lib.hid (fun W (hb : Below w.heap.size w W) => depthAt_yes A d c S A2 m c2 T A3 c3 L (ptSD (f k)) j W (HS.out.below hb) (HS2.out.below hb) (HS3.out.below hb) hn hm HSP.out HL.out HTR.out hps hj hjm)
        have hb3 := plN_bd HSP.out HL.out (trB_idx (HTR.out j hjm)) hps 3 (by omega)
        have htv := turnV_bd HSP.out (trB_idx (HTR.out j hjm))
        have htp := trB_turn (HTR.out j hjm)
        have hE := tdP_yes (L := L) hj
        have hlow := lowV_bd hok
        have HLO := Lib.hid (fun W => leastOf_any (f k) W hok)
        generalize plN S (T j) L (ptSD (f k)) 3 = x at HDA hb3 hE
        generalize turnV S (T j) = tv at HDA hE htv htp
        rw [← fr_more htp] at hE
        have h1 := Int.natAbs_tdiv_le_natAbs x (Nat.gcd x.natAbs tv.natAbs : Nat)
        have h2 := Int.natAbs_tdiv_le_natAbs tv (Nat.gcd x.natAbs tv.natAbs : Nat)
        have hfn : -1000000000000 ≤ frN x tv ∧ frN x tv ≤ 1000000000000 := by unfold frN; omega
        have hfd : -2000000 ≤ frD x tv ∧ frD x tv ≤ 2000000 := by unfold frD; omega
        clear h1 h2 hb3 htv htp
        generalize frN x tv = fn at HDA hE hfn
        generalize frD x tv = fd at HDA hE hfd
        generalize lowV (f k) = lo at HLO hE hlow
        have hpr := mul_bd (a := lo) (b := fd) (M := 20000) (N := 2000000) (by omega) (by omega) (by omega) (by omega)
        have HCM := Lib.hid (fun W => compare_any fn fd lo 1 W (by omega) (by omega))
        rw [Int.mul_one] at HCM
        generalize lo * fd = pr at HCM hE hpr
        clear hi hj hok hps hfn hfd hlow hpr
        by_cases hc2 : pr < fn
        · have HL8 : Hid (tdL S T m L f (k + 1) = tdL S T m L f k ++ [(f k).id]) := pick_hit (by rw [hE]; simp [hc2])
          have ev : cmpV fn pr = 1 := by rw [cmpV, if_neg (by omega), if_pos hc2]
          rw [ev] at HCM
          clear ev hE hc2
          go_wp2_with fail
          refine (HDA.out _ (by repeat' (first | (with_reducible exact Below.refl _ _) | (with_reducible assumption) | (with_reducible refine Below.alloc ?_ ?_ _) | (with_reducible refine Below.drew ?_) | (with_reducible refine Below.setCell ?_ ?_ _) | (with_reducible refine Below.stepB (by assumption) ?_ ?_) | go_size))).mono ?_
          rintro e w3 ⟨rfl, hbw3⟩
          obtain ⟨hzw3, hcw3, hfw3⟩ := bfacts hbw3; (try simp at hzw3 hcw3 hfw3); (try (have : w.heap.size < w3.heap.size := by omega)); (try (have : w.heap.size + 1 < w3.heap.size := by omega)); (try (have : w.heap.size + 1 + 1 < w3.heap.size := by omega)); (try (have : w.heap.size + 1 + 1 + 1 < w3.heap.size := by omega))
          have hB := (blk_newP wr 65 #[.int .i64 (f k).id, .int .i64 (f k).x, .int .i64 (f k).y, .int .i64 (f k).depth, .int .i64 (f k).doubt] rfl).below hbw3 (by simp)
          have g0 : w3.cell? ⟨wr.heap.size, 0, none⟩ = some (.int .i64 (f k).id) := hB.cell 0
          have g1 : w3.cell? ⟨wr.heap.size, 1, none⟩ = some (.int .i64 (f k).x) := hB.cell 1
          have g2 : w3.cell? ⟨wr.heap.size, 2, none⟩ = some (.int .i64 (f k).y) := hB.cell 2
          have g3 : w3.cell? ⟨wr.heap.size, 3, none⟩ = some (.int .i64 (f k).depth) := hB.cell 3
          have g4 : w3.cell? ⟨wr.heap.size, 4, none⟩ = some (.int .i64 (f k).doubt) := hB.cell 4
          have hlB := hB.lt
          clear hcw3 hB
          go_wp2
          refine wp_region_later (by kernel_rfl) (by kernel_rfl) (fun hlx => ?_)
          repeat (go_big_quiet_step ((first | (go_at_call 102; with_reducible exact Later.call (HLO.out _)) | (go_at_call 101; with_reducible exact Later.call (HCM.out _)))))
          refine wpQuiet_nil ?_
          clear hlx
          intro w4 hbw4
          obtain ⟨hzw4, hcw4, hfw4⟩ := bfacts hbw4; (try simp at hzw4 hcw4 hfw4); (try (have : w.heap.size < w4.heap.size := by omega)); (try (have : w.heap.size + 1 < w4.heap.size := by omega)); (try (have : w.heap.size + 1 + 1 < w4.heap.size := by omega)); (try (have : w.heap.size + 1 + 1 + 1 < w4.heap.size := by omega))
          have hO4 := Lib.hid (ownsRow_below HO8.out (by repeat' (first | (with_reducible exact Below.refl _ _) | (with_reducible assumption) | (with_reducible refine Below.alloc ?_ ?_ _) | (with_reducible refine Below.drew ?_) | (with_reducible refine Below.setCell ?_ ?_ _) | (with_reducible refine Below.stepB (by assumption) ?_ ?_) | go_size)) : w4.ownsRow w2.heap.size 3 1 _ _ _)
          go_wp2_with (at_builtin; refine wpList_append_int1 _ rfl _ _ 33 rfl w2.heap.size 3 i0 Try.underlying33 hi0 hz0 hz1 hz2 _ _ _ rfl (hO4.out.alloc _) _ _ ((f k).id) rfl ?_ ?_ ?_ ?_; go_must (focus (simp; done)); go_must (focus omega); go_must (focus (simp; omega)); intro v9 w5 hOw5 hbw5; have hzw5 := hbw5.size; (try simp at hzw5))
          go_roundw
          case rel => exact ⟨k + 1, by omega, by go_num, by rw [HL8.out]; exact owns_snoc hOw5, by omega, by repeat' (first | (with_reducible exact Below.refl _ _) | (with_reducible assumption) | (with_reducible refine Below.alloc ?_ ?_ _) | (with_reducible refine Below.drew ?_) | (with_reducible refine Below.setCell ?_ ?_ _) | (with_reducible refine Below.stepB (by assumption) ?_ ?_) | go_size)⟩
          case measure => simp [intOf]; omega
        · have HL8 : Hid (tdL S T m L f (k + 1) = tdL S T m L f k) := pick_miss (by rw [hE]; simp; omega)
          have ev : cmpV fn pr ≤ 0 := by unfold cmpV; split <;> omega
          generalize cmpV fn pr = cv at HCM ev
          clear hE hc2
          go_wp2_with fail
          refine (HDA.out _ (by repeat' (first | (with_reducible exact Below.refl _ _) | (with_reducible assumption) | (with_reducible refine Below.alloc ?_ ?_ _) | (with_reducible refine Below.drew ?_) | (with_reducible refine Below.setCell ?_ ?_ _) | (with_reducible refine Below.stepB (by assumption) ?_ ?_) | go_size))).mono ?_
          rintro e w3 ⟨rfl, hbw3⟩
          obtain ⟨hzw3, hcw3, hfw3⟩ := bfacts hbw3; (try simp at hzw3 hcw3 hfw3); (try (have : w.heap.size < w3.heap.size := by omega)); (try (have : w.heap.size + 1 < w3.heap.size := by omega)); (try (have : w.heap.size + 1 + 1 < w3.heap.size := by omega)); (try (have : w.heap.size + 1 + 1 + 1 < w3.heap.size := by omega))
          have hB := (blk_newP wr 65 #[.int .i64 (f k).id, .int .i64 (f k).x, .int .i64 (f k).y, .int .i64 (f k).depth, .int .i64 (f k).doubt] rfl).below hbw3 (by simp)
          have g0 : w3.cell? ⟨wr.heap.size, 0, none⟩ = some (.int .i64 (f k).id) := hB.cell 0
          have g1 : w3.cell? ⟨wr.heap.size, 1, none⟩ = some (.int .i64 (f k).x) := hB.cell 1
          have g2 : w3.cell? ⟨wr.heap.size, 2, none⟩ = some (.int .i64 (f k).y) := hB.cell 2
          have g3 : w3.cell? ⟨wr.heap.size, 3, none⟩ = some (.int .i64 (f k).depth) := hB.cell 3
          have g4 : w3.cell? ⟨wr.heap.size, 4, none⟩ = some (.int .i64 (f k).doubt) := hB.cell 4
          have hlB := hB.lt
          clear hcw3 hB
          go_wp2
          refine wp_region_later (by kernel_rfl) (by kernel_rfl) (fun hlx => ?_)
          repeat (go_big_quiet_step ((first | (go_at_call 102; with_reducible exact Later.call (HLO.out _)) | (go_at_call 101; with_reducible exact Later.call (HCM.out _)))))
          refine wpQuiet_nil ?_
          clear hlx
          intro w4 hbw4
          obtain ⟨hzw4, hcw4, hfw4⟩ := bfacts hbw4; (try simp at hzw4 hcw4 hfw4); (try (have : w.heap.size < w4.heap.size := by omega)); (try (have : w.heap.size + 1 < w4.heap.size := by omega)); (try (have : w.heap.size + 1 + 1 < w4.heap.size := by omega)); (try (have : w.heap.size + 1 + 1 + 1 < w4.heap.size := by omega))
          go_wp2
          go_roundw
          case rel => exact ⟨k + 1, by omega, by go_num, by rw [HL8.out]; exact ownsRow_below HO8.out (by repeat' (first | (with_reducible exact Below.refl _ _) | (with_reducible assumption) | (with_reducible refine Below.alloc ?_ ?_ _) | (with_reducible refine Below.drew ?_) | (with_reducible refine Below.setCell ?_ ?_ _) | (with_reducible refine Below.stepB (by assumption) ?_ ?_) | go_size)), by omega, by repeat' (first | (with_reducible exact Below.refl _ _) | (with_reducible assumption) | (with_reducible refine Below.alloc ?_ ?_ _) | (with_reducible refine Below.drew ?_) | (with_reducible refine Below.setCell ?_ ?_ _) | (with_reducible refine Below.stepB (by assumption) ?_ ?_) | go_size)⟩
          case measure => simp [intOf]; omega
    · obtain rfl : k = q := by omega
      go_wp2
      go_ret2
      exact IntsOut.row HO8.out HO.out HV.out (by omega) hbr
set_option maxRecDepth 100000 in
theorem specTooDeep_any (A : Option Addr) (n c : Nat) (S : Nat → SP) (A2 : Option Addr) (m c2 : Nat) (T : Nat → Nat → Int) (A3 : Option Addr) (d c3 : Nat) (L : Nat → Int) (A4 : Option Addr) (q c4 : Nat) (f : Nat → SD) (w : World) (hS : SlSP w A n S) (hS2 : SlT w A2 m T) (hS3 : SlI w A3 d L) (hS4 : SlSD w A4 q f) (hn : n ≤ 1048576) (hm : m ≤ 1048576) (hd : d ≤ 1048576) (hq : q ≤ 1048576) :
    Calls Try.prog 41 #[.slice A n c, .slice A2 m c2, .slice A3 d c3, .slice A4 q c4] w fun e w' => IntsOut w (tdO S n T m L d f q) (tdB S n T m L d f q) e w' := by
  have hg := Lib.hid (fun W (hb : Below w.heap.size w W) => l15Depths_any A n c S A2 m c2 T A3 d c3 L W (hS.below hb) (hS2.below hb) (hS3.below hb) hn hm hd)
  have hh := Lib.hid (fun W (hb : Below w.heap.size w W) => l8Good_any A4 q c4 f W (hS4.below hb) hq)
  have hp := fun h => depthsB_parts (S := S) (n := n) (T := T) (m := m) (L := L) (d := d) h
  have hp2 := fun h => goodNAll_iff (f := f) (n := q) |>.1 h
  have hv : tdB S n T m L d f q = (depthsB S n T m L d && goodNAll f q) := rfl
  have ho : tdO S n T m L d f q = if tdB S n T m L d f q = true then tdL S T m L f q else [] := rfl
  rw [hv] at ho
  generalize tdO S n T m L d f q = o at ho ⊢
  generalize tdB S n T m L d f q = bb at hv ⊢
  generalize depthsB S n T m L d = z at hg hv ho hp
  generalize goodNAll f q = z2 at hh hv ho hp2
  cases z
  · have HO : Hid (o = []) := ho
    have HV : Hid (bb = false) := hv
    clear ho hv hp hp2 hS hS2 hS3 hS4
    go_enter Try.func41, Try.ntmps41
    go_wp2_with fail
    refine (hg.out _ (by repeat' (first | (with_reducible exact Below.refl _ _) | (with_reducible assumption) | (with_reducible refine Below.alloc ?_ ?_ _) | (with_reducible refine Below.drew ?_) | (with_reducible refine Below.setCell ?_ ?_ _) | (with_reducible refine Below.stepB (by assumption) ?_ ?_) | go_size))).mono ?_
    rintro e w1 ⟨rfl, hbw1⟩
    obtain ⟨hzw1, hcw1, hfw1⟩ := bfacts hbw1; (try simp at hzw1 hcw1 hfw1); (try (have : w.heap.size < w1.heap.size := by omega)); (try (have : w.heap.size + 1 < w1.heap.size := by omega)); (try (have : w.heap.size + 1 + 1 < w1.heap.size := by omega)); (try (have : w.heap.size + 1 + 1 + 1 < w1.heap.size := by omega))
    go_wp2
    go_ret2
    exact IntsOut.none HO.out HV.out (by repeat' (first | (with_reducible exact Below.refl _ _) | (with_reducible assumption) | (with_reducible refine Below.alloc ?_ ?_ _) | (with_reducible refine Below.drew ?_) | (with_reducible refine Below.setCell ?_ ?_ _) | (with_reducible refine Below.stepB (by assumption) ?_ ?_) | go_size))
  cases z2
  · have HO : Hid (o = []) := ho
    have HV : Hid (bb = false) := hv
    clear ho hv hp hp2 hS hS2 hS3 hS4
    go_enter Try.func41, Try.ntmps41
    go_wp2_with fail
    refine (hg.out _ (by repeat' (first | (with_reducible exact Below.refl _ _) | (with_reducible assumption) | (with_reducible refine Below.alloc ?_ ?_ _) | (with_reducible refine Below.drew ?_) | (with_reducible refine Below.setCell ?_ ?_ _) | (with_reducible refine Below.stepB (by assumption) ?_ ?_) | go_size))).mono ?_
    rintro e w1 ⟨rfl, hbw1⟩
    obtain ⟨hzw1, hcw1, hfw1⟩ := bfacts hbw1; (try simp at hzw1 hcw1 hfw1); (try (have : w.heap.size < w1.heap.size := by omega)); (try (have : w.heap.size + 1 < w1.heap.size := by omega)); (try (have : w.heap.size + 1 + 1 < w1.heap.size := by omega)); (try (have : w.heap.size + 1 + 1 + 1 < w1.heap.size := by omega))
    go_wp2_with fail
    refine (hh.out _ (by repeat' (first | (with_reducible exact Below.refl _ _) | (with_reducible assumption) | (with_reducible refine Below.alloc ?_ ?_ _) | (with_reducible refine Below.drew ?_) | (with_reducible refine Below.setCell ?_ ?_ _) | (with_reducible refine Below.stepB (by assumption) ?_ ?_) | go_size))).mono ?_
    rintro e w2 ⟨rfl, hbw2⟩
    obtain ⟨hzw2, hcw2, hfw2⟩ := bfacts hbw2; (try simp at hzw2 hcw2 hfw2); (try (have : w.heap.size < w2.heap.size := by omega)); (try (have : w.heap.size + 1 < w2.heap.size := by omega)); (try (have : w.heap.size + 1 + 1 < w2.heap.size := by omega)); (try (have : w.heap.size + 1 + 1 + 1 < w2.heap.size := by omega))
    go_wp2
    go_ret2
    exact IntsOut.none HO.out HV.out (by repeat' (first | (with_reducible exact Below.refl _ _) | (with_reducible assumption) | (with_reducible refine Below.alloc ?_ ?_ _) | (with_reducible refine Below.drew ?_) | (with_reducible refine Below.setCell ?_ ?_ _) | (with_reducible refine Below.stepB (by assumption) ?_ ?_) | go_size))
  have HO : Hid (o = tdL S T m L f q) := ho
  have HV : Hid (bb = true) := hv
  obtain ⟨hmb, rfl, hdp⟩ := hp rfl
  obtain ⟨hsp, -, -, htr⟩ := meshB_parts hmb
  have hL := depB_lt hdp
  have HOK := Lib.hid (goodN_lt (hp2 rfl).1)
  have HSP := Lib.hid hsp
  have HTR := Lib.hid htr
  have HL := Lib.hid hL
  have HS := Lib.hid hS
  have HS2 := Lib.hid hS2
  have HS3 := Lib.hid hS3
  have HS4 := Lib.hid hS4
  clear ho hv hp hp2 hmb hdp hsp htr hL hS hS2 hS3 hS4
  obtain ⟨i0, hi0, hz0, hz1, hz2⟩ := info_parts int_infoC
  go_enter Try.func41, Try.ntmps41
  go_wp2_with fail
  refine (hg.out _ (by repeat' (first | (with_reducible exact Below.refl _ _) | (with_reducible assumption) | (with_reducible refine Below.alloc ?_ ?_ _) | (with_reducible refine Below.drew ?_) | (with_reducible refine Below.setCell ?_ ?_ _) | (with_reducible refine Below.stepB (by assumption) ?_ ?_) | go_size))).mono ?_
  rintro e w1 ⟨rfl, hbw1⟩
  obtain ⟨hzw1, hcw1, hfw1⟩ := bfacts hbw1; (try simp at hzw1 hcw1 hfw1); (try (have : w.heap.size < w1.heap.size := by omega)); (try (have : w.heap.size + 1 < w1.heap.size := by omega)); (try (have : w.heap.size + 1 + 1 < w1.heap.size := by omega)); (try (have : w.heap.size + 1 + 1 + 1 < w1.heap.size := by omega))
  have hO0 := ownsRow_below (ownsRow_empty w 3 1) hbw1
  go_wp2_with fail
  refine (hh.out _ (by repeat' (first | (with_reducible exact Below.refl _ _) | (with_reducible assumption) | (with_reducible refine Below.alloc ?_ ?_ _) | (with_reducible refine Below.drew ?_) | (with_reducible refine Below.setCell ?_ ?_ _) | (with_reducible refine Below.stepB (by assumption) ?_ ?_) | go_size))).mono ?_
  rintro e w2 ⟨rfl, hbw2⟩
  obtain ⟨hzw2, hcw2, hfw2⟩ := bfacts hbw2; (try simp at hzw2 hcw2 hfw2); (try (have : w.heap.size < w2.heap.size := by omega)); (try (have : w.heap.size + 1 < w2.heap.size := by omega)); (try (have : w.heap.size + 1 + 1 < w2.heap.size := by omega)); (try (have : w.heap.size + 1 + 1 + 1 < w2.heap.size := by omega))
  have hO1 := ownsRow_below hO0 hbw2
  clear hO0
  go_wp2
  go_loopw [10, 11] (fun v6 vc wr => ∃ k : Nat, k ≤ q ∧ vc = .int .i64 k ∧ wr.ownsRow w.heap.size 3 1 v6 (tdL S T m L f k).length ((tdL S T m L f k).map (Value.int .i64)) ∧ Below w.heap.size w wr) (fun _ vc _ => q - (intOf vc).toNat)
  case atStart => exact ⟨0, Nat.zero_le _, rfl, hO1, by repeat' (first | (with_reducible exact Below.refl _ _) | (with_reducible assumption) | (with_reducible refine Below.alloc ?_ ?_ _) | (with_reducible refine Below.drew ?_) | (with_reducible refine Below.setCell ?_ ?_ _) | (with_reducible refine Below.stepB (by assumption) ?_ ?_) | go_size)⟩
  case round =>
    clear hO1
    obtain ⟨k, hk, rfl, hO, hbr⟩ := hrel
    have hzr := hbr.size
    have hlen : (tdL S T m L f k).length ≤ k := pick_len k
    obtain ⟨A8, c8, rfl⟩ := ownsRow_form hO
    have HO8 := Lib.hid hO
    clear hO
    by_cases hlt : k < q
    · obtain ⟨b, off, rfl, hbl, hbl2, x0, x1, x2, x3, x4, hx⟩ := HS4.out.at hbr hlt
      have hok := HOK.out k hlt
      have hps : spB (ptSD (f k)) = true := okN_spot hok
      have HAT := Lib.hid (fun W (hb : Below w.heap.size w W) => l15At_any A d c S A2 m c2 T (ptSD (f k)) W (HS.out.below hb) (HS2.out.below hb) hn hm HSP.out HTR.out hps)
      clear hx
      rcases idxP_cases (fun i => insB S (T i) (ptSD (f k))) m with ⟨hi, -⟩ | ⟨j, hjm, hi, -⟩
      · have hj : triAt S T m (ptSD (f k)) = -1 := hi
        rw [hj] at HAT
        have HL8 : Hid (tdL S T m L f (k + 1) = tdL S T m L f k) := pick_miss (tdP_no hj)
        clear hi hj hok hps
        go_wp2_with fail
        refine (HAT.out _ (by repeat' (first | (with_reducible exact Below.refl _ _) | (with_reducible assumption) | (with_reducible refine Below.alloc ?_ ?_ _) | (with_reducible refine Below.drew ?_) | (with_reducible refine Below.setCell ?_ ?_ _) | (with_reducible refine Below.stepB (by assumption) ?_ ?_) | go_size))).mono ?_
        rintro e w3 ⟨rfl, hbw3⟩
        obtain ⟨hzw3, hcw3, hfw3⟩ := bfacts hbw3; (try simp at hzw3 hcw3 hfw3); (try (have : w.heap.size < w3.heap.size := by omega)); (try (have : w.heap.size + 1 < w3.heap.size := by omega)); (try (have : w.heap.size + 1 + 1 < w3.heap.size := by omega)); (try (have : w.heap.size + 1 + 1 + 1 < w3.heap.size := by omega))
        go_wp2
        go_roundw
        case rel => exact ⟨k + 1, by omega, by go_num, by rw [HL8.out]; exact ownsRow_below HO8.out (by repeat' (first | (with_reducible exact Below.refl _ _) | (with_reducible assumption) | (with_reducible refine Below.alloc ?_ ?_ _) | (with_reducible refine Below.drew ?_) | (with_reducible refine Below.setCell ?_ ?_ _) | (with_reducible refine Below.stepB (by assumption) ?_ ?_) | go_size)), by repeat' (first | (with_reducible exact Below.refl _ _) | (with_reducible assumption) | (with_reducible refine Below.alloc ?_ ?_ _) | (with_reducible refine Below.drew ?_) | (with_reducible refine Below.setCell ?_ ?_ _) | (with_reducible refine Below.stepB (by assumption) ?_ ?_) | go_size)⟩
        case measure => simp [intOf]; omega
      · have hj : triAt S T m (ptSD (f k)) = j := hi
        rw [hj] at HAT
        have HPL := Lib.hid (fun W (hb : Below w.heap.size w W) => l15Plane_any A d c S (T j) A3 c3 L (ptSD (f k)) W (HS.out.below hb) (HS3.out.below hb) hn HSP.out HL.out (trB_idx (HTR.out j hjm)) hps)
        have hb3 := plN_bd HSP.out HL.out (trB_idx (HTR.out j hjm)) hps 3 (by omega)
        have htv := turnV_bd HSP.out (trB_idx (HTR.out j hjm))
        have hE := tdP_yes (L := L) hj
        have hlow := lowV_bd hok
        have HLO := Lib.hid (fun W => l8Low_any (f k) W hok)
        generalize plN S (T j) L (ptSD (f k)) 3 = x at HPL hb3 hE
        generalize turnV S (T j) = tv at HPL hE htv
        dsimp only [ptSD] at HPL
        generalize lowV (f k) = lo at HLO hE hlow
        have hpr := mul_bd (a := lo) (b := tv) (M := 20000) (N := 2000000) (by omega) (by omega) (by omega) (by omega)
        clear hi hj hok hps hlow
        go_wp2_with fail
        refine (HAT.out _ (by repeat' (first | (with_reducible exact Below.refl _ _) | (with_reducible assumption) | (with_reducible refine Below.alloc ?_ ?_ _) | (with_reducible refine Below.drew ?_) | (with_reducible refine Below.setCell ?_ ?_ _) | (with_reducible refine Below.stepB (by assumption) ?_ ?_) | go_size))).mono ?_
        rintro e w3 ⟨rfl, hbw3⟩
        obtain ⟨hzw3, hcw3, hfw3⟩ := bfacts hbw3; (try simp at hzw3 hcw3 hfw3); (try (have : w.heap.size < w3.heap.size := by omega)); (try (have : w.heap.size + 1 < w3.heap.size := by omega)); (try (have : w.heap.size + 1 + 1 < w3.heap.size := by omega)); (try (have : w.heap.size + 1 + 1 + 1 < w3.heap.size := by omega))
        have HW3 : Hid (Below w.heap.size w w3) := Lib.hid (by repeat' (first | (with_reducible exact Below.refl _ _) | (with_reducible assumption) | (with_reducible refine Below.alloc ?_ ?_ _) | (with_reducible refine Below.drew ?_) | (with_reducible refine Below.setCell ?_ ?_ _) | (with_reducible refine Below.stepB (by assumption) ?_ ?_) | go_size))
        obtain ⟨b5, off5, rfl, hbl5, hbl6, t0, t1, t2⟩ := HS2.out.at (k := j) HW3.out hjm
        obtain ⟨b6, off6, hA6, _, hbl7, y0, y1, y2, y3, y4, hy⟩ := HS4.out.at (k := k) HW3.out hlt
        obtain ⟨rfl, rfl⟩ : b = b6 ∧ off = off6 := by simpa using hA6
        have HPLL := Lib.hid (fun (x : Later w3) => HPL.out x.w (Later.old x HW3.out (by omega)))
        have HR3 : Hid (Below wr.heap.size wr w3) := hbw3
        clear hA6 hy hcw3 x0 x1 x2 x3 x4
        go_wp2_with fail
        refine wp_region_later (by kernel_rfl) (by kernel_rfl) (fun hlx => ?_)
        repeat (go_big_quiet_step ((go_at_call 77; with_reducible exact Later.call (HPLL.out _))))
        refine wpQuiet_nil ?_
        clear hlx
        intro w4 hbw4
        obtain ⟨hzw4, hcw4, hfw4⟩ := bfacts hbw4; (try simp at hzw4 hcw4 hfw4); (try (have : w.heap.size < w4.heap.size := by omega)); (try (have : w.heap.size + 1 < w4.heap.size := by omega)); (try (have : w.heap.size + 1 + 1 < w4.heap.size := by omega)); (try (have : w.heap.size + 1 + 1 + 1 < w4.heap.size := by omega))
        have HR4 : Hid (Below wr.heap.size wr w4) := HR3.out.trans (hbw4.mono (by omega))
        have m1 : IntKind.i64.wrap (lo * tv) = lo * tv := by rw [IntKind.wrap_i64]; omega
        go_wp2_with fail
        refine (HLO.out _).mono ?_
        rintro e w5 ⟨rfl, hbw5⟩
        obtain ⟨hzw5, hcw5, hfw5⟩ := bfacts hbw5; (try simp at hzw5 hcw5 hfw5); (try (have : w.heap.size < w5.heap.size := by omega)); (try (have : w.heap.size + 1 < w5.heap.size := by omega)); (try (have : w.heap.size + 1 + 1 < w5.heap.size := by omega)); (try (have : w.heap.size + 1 + 1 + 1 < w5.heap.size := by omega))
        have HR5 : Hid (Below wr.heap.size wr w5) := HR4.out.trans (hbw5.mono (by omega))
        by_cases hc2 : lo * tv < x
        · have HL8 : Hid (tdL S T m L f (k + 1) = tdL S T m L f k ++ [(f k).id]) := pick_hit (by rw [hE]; simp [hc2])
          have hO4 := Lib.hid (ownsRow_below HO8.out HR5.out : w5.ownsRow w.heap.size 3 1 _ _ _)
          obtain ⟨b7, off7, hA7, _, hbl8, z0, _, _, _, _, _⟩ := HS4.out.at (k := k) (hbr.trans (HR5.out.mono hzr)) hlt
          obtain ⟨rfl, rfl⟩ : b = b7 ∧ off = off7 := by simpa using hA7
          clear hE hA7 hcw5 hcw4 y0 y1 y2 y3 y4
          go_wp2_with (at_builtin; refine wpList_append_int1 _ rfl _ _ 33 rfl w.heap.size 3 i0 Try.underlying33 hi0 hz0 hz1 hz2 _ _ _ rfl (hO4.out.alloc _) _ _ ((f k).id) rfl ?_ ?_ ?_ ?_; go_must (focus (simp; done)); go_must (focus omega); go_must (focus (simp; omega)); intro v9 w6 hOw6 hbw6; have hzw6 := hbw6.size; (try simp at hzw6))
          go_roundw
          case rel => exact ⟨k + 1, by omega, by go_num, by rw [HL8.out]; exact owns_snoc hOw6, by repeat' (first | (with_reducible exact Below.refl _ _) | (with_reducible assumption) | (with_reducible refine Below.alloc ?_ ?_ _) | (with_reducible refine Below.drew ?_) | (with_reducible refine Below.setCell ?_ ?_ _) | (with_reducible refine Below.stepB (by assumption) ?_ ?_) | go_size)⟩
          case measure => simp [intOf]; omega
        · have HL8 : Hid (tdL S T m L f (k + 1) = tdL S T m L f k) := pick_miss (by rw [hE]; simp; omega)
          have hcf : decide (lo * tv < x) = false := decide_eq_false hc2
          have hcg : x ≤ lo * tv := by omega
          clear hE
          go_wp2
          go_roundw
          case rel => exact ⟨k + 1, by omega, by go_num, by rw [HL8.out]; exact ownsRow_below HO8.out HR5.out, hbr.trans (HR5.out.mono hzr)⟩
          case measure => simp [intOf]; omega
    · obtain rfl : k = q := by omega
      go_wp2
      go_ret2
      exact IntsOut.row HO8.out HO.out HV.out (by omega) hbr
end Go.Proofs.Ytfflbkmncnaffaa
