/- Contracts: the program's state of soundings after some steps. -/
import Derived.Test.YtbgpmbaonjehbaaEdE
import Derived.Test.YtbgpmbaonjehbaaStill
import Derived.Deep.RegionHeld3
import Derived.Deep.DeepCutAuto
namespace Go.Proofs.Ytbgpmbaonjehbaa
open Go.RowKit
theorem Own.far {w : World} {lo k n b : Nat} {g : Nat → Nat → Value} {p : Addr} (h : Own w lo k (some ⟨b, 0, none⟩) n g) (hp : b ≠ p.block) (u : Value) : Own (w.setCell p u) lo k (some ⟨b, 0, none⟩) n g := fun hn => by
  obtain ⟨b', t, cs, hA, hl, hB, hs, hc⟩ := h hn
  obtain rfl : b = b' := by simpa using hA
  exact ⟨b, t, cs, rfl, hl, hB.far hp u, hs, hc⟩
theorem bool_info : (Try.prog.info? 4).map (fun i => (i.zero, i.size, i.bytes)) = some (some (.bool false), 1, 1) := by kernel_rfl
theorem Own.set1 {w : World} {lo n b i : Nat} {g : Nat → Nat → Value} {u : Value} (h : Own w lo 1 (some ⟨b, 0, none⟩) n g) : Own (w.setCell ⟨b, i, none⟩ u) lo 1 (some ⟨b, 0, none⟩) n (fun i' j' => if i' = i then u else g i' j') := by
  have h2 := h.set (i := i) (j := 0) (u := u) (by decide)
  simp only [Nat.mul_one, Nat.add_zero] at h2
  exact h2.congr (fun i' j' _ hj => by
    obtain rfl : j' = 0 := by omega
    simp)
def rejV (f : Nat → ES) (L : List Nat) (i _j : Nat) : Value := .bool (!accV f L i)
theorem rej_step {f : Nat → ES} {L L' : List Nat} {j p : Nat} (hL : L' = L ++ [j]) (hk : (f j).kind ≠ 2) (hm : (f j).mark = p) (i' j' : Nat) : (if i' = p then Value.bool (!decide ((f j).kind = 1)) else rejV f L i' j') = rejV f L' i' j' := by
  unfold rejV
  rw [hL, accV_snoc, acStep, hm]
  by_cases h : i' = p
  · subst h
    rw [if_pos rfl, if_pos ⟨rfl, hk⟩]
  · rw [if_neg h, if_neg (fun hc => h (by omega))]
theorem rej_same {f : Nat → ES} {L L' : List Nat} {j : Nat} (hL : L' = L ++ [j]) (hk : (f j).kind = 2) (i' j' : Nat) : rejV f L i' j' = rejV f L' i' j' := by
  unfold rejV
  rw [hL, accV_snoc, acStep, if_neg (fun hc => hc.2 hk)]
theorem sh_step {f : Nat → ES} {L L' : List Nat} {j p : Nat} (hL : L' = L ++ [j]) (hk : (f j).kind = 2) (hm : (f j).mark = p) (i' : Nat) : (if i' = p then Value.int .i64 (shiftV f L p + (f j).by_) else .int .i64 (shiftV f L i')) = .int .i64 (shiftV f L' i') := by
  rw [hL, shiftV_snoc, shStep, hm]
  by_cases h : i' = p
  · subst h
    rw [if_pos rfl, if_pos ⟨rfl, hk⟩]
  · rw [if_neg h, if_neg (fun hc => h (by omega))]
theorem sh_same {f : Nat → ES} {L L' : List Nat} {j : Nat} (hL : L' = L ++ [j]) (hk : (f j).kind ≠ 2) (x : Int) : shiftV f L x = shiftV f L' x := by
  rw [hL, shiftV_snoc, shStep, if_neg (fun hc => hk hc.2)]
/-- a state of M soundings behind the steps L -/
def StOut (w : World) (M : Nat) (f : Nat → ES) (L : List Nat) (V cV : Nat) (e : Ending) (w' : World) : Prop :=
  ∃ q R S, e = .returned (.pointer (some ⟨q, 0, none⟩)) ∧ Blk w' q 63 #[.slice (some ⟨R, 0, none⟩) M M, .slice (some ⟨S, 0, none⟩) M M, .slice (some ⟨V, 0, none⟩) L.length cV] ∧
    Own w' w.heap.size 1 (some ⟨R, 0, none⟩) M (rejV f L) ∧ OwnI w' w.heap.size (some ⟨S, 0, none⟩) M (fun i => shiftV f L i) ∧ Below w.heap.size w w'
/-- what stateOf asks of the steps whose indices are live -/
def LiveOk (M n : Nat) (f : Nat → ES) (L : List Nat) : Prop := ∀ i, i ∈ L → i < n ∧ (∃ p : Nat, p < M ∧ (f i).mark = p) ∧ ((f i).kind = 0 ∨ (f i).kind = 1 ∨ (f i).kind = 2) ∧ (-100 ≤ (f i).by_ ∧ (f i).by_ ≤ 100)
theorem own_made {w : World} {lo b M : Nat} {t : TypeId} {z : Value} (hB : Blk w b t (madeCells #[z] M)) (hlo : lo ≤ b) : Own w lo 1 (some ⟨b, 0, none⟩) M (fun _ _ => z) := fun _ =>
  ⟨b, t, _, rfl, hlo, hB, by simp [madeCells], fun i j hi hj => by
    obtain rfl : j = 0 := by omega
    simp [madeCells, hi, Nat.mod_one]⟩
set_option maxRecDepth 100000 in
set_option maxHeartbeats 4000000 in
theorem stateOf_any (M : Nat) (A : Option Addr) (n c : Nat) (f : Nat → ES) (V cV m : Nat) (L : List Nat) (w : World) (hS : SlES w A n f) (hV : SlI w (some ⟨V, 0, none⟩) m (natV L)) (hm : m = L.length) (hm20 : m ≤ 20) (hM : M ≤ 15) (hL : LiveOk M n f L) :
    Calls Try.prog 53 #[.int .i64 M, .slice A n c, .slice (some ⟨V, 0, none⟩) m cV] w fun e w' => StOut w M f L V cV e w' := by
  obtain ⟨i0, hi, hz0, hz1, hz2⟩ := info_parts nat_info
  have hmk := run_make_rowN (P := Try.prog) 35 3 i0 _ Try.underlying35 hi hz0 .i64 .i64 M M (Nat.le_refl _) (by rw [hz2]; omega) (by omega)
  rw [hz1] at hmk
  obtain ⟨j0, hj, hy0, hy1, hy2⟩ := info_parts bool_info
  have hmb := run_make_rowN (P := Try.prog) 32 4 j0 _ Try.underlying32 hj hy0 .i64 .i64 M M (Nat.le_refl _) (by rw [hy2]; omega) (by omega)
  rw [hy1] at hmb
  clear hi hz0 hz1 hz2 hj hy0 hy1 hy2
  have HS := Lib.hid hS
  have HV := Lib.hid hV
  have HL := Lib.hid hL
  have HN := Lib.hid hm
  clear hS hV hL hm
  go_enter Try.func53, Try.ntmps53
  go_upto_region 1 with fail
  go_cut [7] (fun v7 wx => ∃ q R S : Nat, v7 = .pointer (some ⟨q, 0, none⟩) ∧ w.heap.size ≤ R ∧ w.heap.size ≤ S ∧ w.heap.size ≤ q ∧ R ≠ S ∧ R ≠ q ∧ S ≠ q ∧ Hid (Blk wx q 63 #[.slice (some ⟨R, 0, none⟩) M M, .slice (some ⟨S, 0, none⟩) M M, .slice (some ⟨V, 0, none⟩) m cV]) ∧ Hid (Own wx w.heap.size 1 (some ⟨R, 0, none⟩) M (fun _ _ => .bool false)) ∧ Hid (Own wx w.heap.size 1 (some ⟨S, 0, none⟩) M (fun _ _ => .int .i64 0)) ∧ Below w.heap.size w wx)
  case first =>
    go_region
    all_goals (go_wp2_with fail; go_meet)
    · exact ⟨_, _, _, rfl, Nat.le_refl _, by omega, by omega, by omega, by omega, by omega, Blk.drew (blk_new1 _ (by simp)), own_made (Blk.drew (((blk_new1 _ rfl).alloc _).alloc _)) (Nat.le_refl _), own_made (Blk.drew ((blk_new1 _ (by simp)).alloc _)) (by omega), by repeat' (first | (with_reducible exact Below.refl _ _) | (with_reducible assumption) | (with_reducible refine Below.alloc ?_ ?_ _) | (with_reducible refine Below.drew ?_) | (with_reducible refine Below.setCell ?_ ?_ _) | (with_reducible refine Below.stepB (by assumption) ?_ ?_) | go_size)⟩
    · exact ⟨_, _, _, rfl, by omega, Nat.le_refl _, by omega, by omega, by omega, by omega, Blk.drew (blk_new1 _ (by simp)), own_made (Blk.drew ((blk_new1 _ (by simp)).alloc _)) (by omega), own_made (Blk.drew (((blk_new1 _ rfl).alloc _).alloc _)) (Nat.le_refl _), by repeat' (first | (with_reducible exact Below.refl _ _) | (with_reducible assumption) | (with_reducible refine Below.alloc ?_ ?_ _) | (with_reducible refine Below.drew ?_) | (with_reducible refine Below.setCell ?_ ?_ _) | (with_reducible refine Below.stepB (by assumption) ?_ ?_) | go_size)⟩
  clear hmk hmb
  obtain ⟨q, R, S, rfl, hR0, hS0, hq0, n1, n2, n3, HQ, HR, HT, hbc⟩ := hcut
  have HBC := Lib.hid hbc
  have hzc := hbc.size
  clear hbc
  have HB : Hid (∀ (mark : Int) (p : Nat), -(100 * (p : Int)) ≤ shiftV f (L.take p) mark ∧ shiftV f (L.take p) mark ≤ 100 * p) := fun mark => shift_bnd (fun i hi => (HL.out i hi).2.2.2)
  go_wp2
  go_loopw [20] (fun v20 wr => ∃ i : Nat, i ≤ m ∧ v20 = .int .i64 i ∧ Hid (Blk wr q 63 #[.slice (some ⟨R, 0, none⟩) M M, .slice (some ⟨S, 0, none⟩) M M, .slice (some ⟨V, 0, none⟩) m cV]) ∧ Hid (Own wr w.heap.size 1 (some ⟨R, 0, none⟩) M (rejV f (L.take i))) ∧ Hid (OwnI wr w.heap.size (some ⟨S, 0, none⟩) M (fun j => shiftV f (L.take i) j)) ∧ Below w.heap.size w wr) (fun v20 _ => m - (intOf v20).toNat)
  case atStart => exact ⟨0, Nat.zero_le _, rfl, HQ.out, HR.out, HT.out, HBC.out⟩
  case round =>
    clear HQ HR HT HBC hzc
    obtain ⟨i, hi, rfl, HQ, HR, HT, hbr⟩ := hrel
    have hzr := hbr.size
    by_cases hlt : i < m
    · obtain ⟨bV, oV, e5, hb5, hb6, d0⟩ := SlI.at HV.out hbr hlt
      obtain ⟨rfl, rfl⟩ : V = bV ∧ 0 = oV := by simpa using e5
      rw [Nat.zero_add] at d0
      have hj : natV L i = ((L.getD i 0 : Nat) : Int) := rfl
      rw [hj] at d0
      obtain ⟨hjn, ⟨p, hpM, hpm⟩, hkd, y0, y1⟩ := HL.out _ (cln_get (show i < L.length by rw [← HN.out]; exact hlt))
      have HTK := Lib.hid (take_snoc (show i < L.length by rw [← HN.out]; exact hlt))
      generalize L.getD i 0 = j at d0 hjn hpm hkd y0 y1 HTK
      clear hj e5
      obtain ⟨b, off, rfl, hbl, hbl2, c0, c1, c2, c3⟩ := HS.out.at hbr hjn
      have hql := HQ.out.lt
      have x0 : wr.cell? ⟨q, 0, none⟩ = some (.slice (some ⟨R, 0, none⟩) M M) := HQ.out.cell 0
      have x1 : wr.cell? ⟨q, 1, none⟩ = some (.slice (some ⟨S, 0, none⟩) M M) := HQ.out.cell 1
      have x2 : wr.cell? ⟨q, 2, none⟩ = some (.slice (some ⟨V, 0, none⟩) m cV) := HQ.out.cell 2
      have r0 := HR.out.at_ (i := p) (j := 0) hpM (by decide)
      have t0 := Own.at_ HT.out (i := p) (j := 0) hpM (by decide)
      simp only [Nat.mul_one, Nat.add_zero] at r0 t0
      obtain ⟨hRl, hRf⟩ := HR.out.free (by omega)
      obtain ⟨hTl, hTf⟩ := Own.free HT.out (by omega)
      have hs1 := HB.out p i
      have HPM := Lib.hid hpm
      rw [hpm] at c1
      have hp2 : (p : Int) < M := by omega
      obtain ⟨s0, s1⟩ : -3000 ≤ shiftV f (L.take i) p ∧ shiftV f (L.take i) p ≤ 3000 := by omega
      generalize hsv : shiftV f (L.take i) p = sv at t0 s0 s1
      replace hsv := Lib.hid hsv
      clear hs1 hpm
      by_cases k2 : (f j).kind = 2
      · have HK := Lib.hid k2
        rw [k2] at c0
        clear k2 hkd
        go_wp2
        refine wp_region_tail 12 (by kernel_rfl) (by kernel_rfl) ?_
        simp only [List.take_succ_cons, List.take_zero, List.drop_succ_cons, List.drop_zero]
        repeat still_step
        refine wpStill_nil ?_
        go_wp2
        go_roundw
        case rel =>
          refine ⟨i + 1, by omega, by go_num, Blk.drew (Blk.alloc (Blk.far HQ.out (p := ⟨S, p, none⟩) (by show q ≠ S; omega) _) _), ?_, ?_, by repeat' (first | (with_reducible exact Below.refl _ _) | (with_reducible assumption) | (with_reducible refine Below.alloc ?_ ?_ _) | (with_reducible refine Below.drew ?_) | (with_reducible refine Below.setCell ?_ ?_ _) | (with_reducible refine Below.stepB (by assumption) ?_ ?_) | go_size)⟩
          · exact ((Own.far HR.out (p := ⟨S, p, none⟩) (by show R ≠ S; omega) (.int .i64 (sv + (f j).by_))).below (by repeat' (first | (with_reducible exact Below.refl _ _) | (with_reducible assumption) | (with_reducible refine Below.alloc ?_ ?_ _) | (with_reducible refine Below.drew ?_) | (with_reducible refine Below.setCell ?_ ?_ _) | (with_reducible refine Below.stepB (by assumption) ?_ ?_) | go_size))).congr (fun i' j' _ _ => rej_same HTK.out HK.out i' j')
          · refine Own.congr (Own.below (Own.set1 HT.out (i := p) (u := .int .i64 (sv + (f j).by_))) (by repeat' (first | (with_reducible exact Below.refl _ _) | (with_reducible assumption) | (with_reducible refine Below.alloc ?_ ?_ _) | (with_reducible refine Below.drew ?_) | (with_reducible refine Below.setCell ?_ ?_ _) | (with_reducible refine Below.stepB (by assumption) ?_ ?_) | go_size))) (fun i' j' _ _ => ?_)
            rw [← sh_step HTK.out HK.out HPM.out i', hsv.out]
        case measure => simp [intOf]; omega
      · have HK := Lib.hid k2
        have HRS := Lib.hid (fun i' j' => rej_step HTK.out k2 HPM.out i' j')
        obtain k0 | k1 : (f j).kind = 0 ∨ (f j).kind = 1 := by omega
        · rw [k0] at c0 HRS
          clear k2 hkd k0
          go_wp2
          refine wp_region_tail 7 (by kernel_rfl) (by kernel_rfl) ?_
          simp only [List.take_succ_cons, List.take_zero, List.drop_succ_cons, List.drop_zero]
          repeat still_step
          refine wpStill_nil ?_
          go_wp2
          go_roundw
          case rel =>
            refine ⟨i + 1, by omega, by go_num, Blk.drew (Blk.alloc (Blk.far HQ.out (p := ⟨R, p, none⟩) (by show q ≠ R; omega) _) _), ?_, ?_, by repeat' (first | (with_reducible exact Below.refl _ _) | (with_reducible assumption) | (with_reducible refine Below.alloc ?_ ?_ _) | (with_reducible refine Below.drew ?_) | (with_reducible refine Below.setCell ?_ ?_ _) | (with_reducible refine Below.stepB (by assumption) ?_ ?_) | go_size)⟩
            · exact (Own.below (Own.set1 HR.out (i := p) (u := .bool true)) (by repeat' (first | (with_reducible exact Below.refl _ _) | (with_reducible assumption) | (with_reducible refine Below.alloc ?_ ?_ _) | (with_reducible refine Below.drew ?_) | (with_reducible refine Below.setCell ?_ ?_ _) | (with_reducible refine Below.stepB (by assumption) ?_ ?_) | go_size))).congr (fun i' j' _ _ => HRS.out i' j')
            · exact ((Own.far HT.out (p := ⟨R, p, none⟩) (by show S ≠ R; omega) (.bool true)).below (by repeat' (first | (with_reducible exact Below.refl _ _) | (with_reducible assumption) | (with_reducible refine Below.alloc ?_ ?_ _) | (with_reducible refine Below.drew ?_) | (with_reducible refine Below.setCell ?_ ?_ _) | (with_reducible refine Below.stepB (by assumption) ?_ ?_) | go_size))).congr (fun i' _ _ _ => congrArg (Value.int .i64) (sh_same HTK.out HK.out _))
          case measure => simp [intOf]; omega
        · rw [k1] at c0 HRS
          clear k2 hkd k1
          go_wp2
          refine wp_region_tail 7 (by kernel_rfl) (by kernel_rfl) ?_
          simp only [List.take_succ_cons, List.take_zero, List.drop_succ_cons, List.drop_zero]
          repeat still_step
          refine wpStill_nil ?_
          go_wp2
          go_roundw
          case rel =>
            refine ⟨i + 1, by omega, by go_num, Blk.drew (Blk.alloc (Blk.far HQ.out (p := ⟨R, p, none⟩) (by show q ≠ R; omega) _) _), ?_, ?_, by repeat' (first | (with_reducible exact Below.refl _ _) | (with_reducible assumption) | (with_reducible refine Below.alloc ?_ ?_ _) | (with_reducible refine Below.drew ?_) | (with_reducible refine Below.setCell ?_ ?_ _) | (with_reducible refine Below.stepB (by assumption) ?_ ?_) | go_size)⟩
            · exact (Own.below (Own.set1 HR.out (i := p) (u := .bool false)) (by repeat' (first | (with_reducible exact Below.refl _ _) | (with_reducible assumption) | (with_reducible refine Below.alloc ?_ ?_ _) | (with_reducible refine Below.drew ?_) | (with_reducible refine Below.setCell ?_ ?_ _) | (with_reducible refine Below.stepB (by assumption) ?_ ?_) | go_size))).congr (fun i' j' _ _ => HRS.out i' j')
            · exact ((Own.far HT.out (p := ⟨R, p, none⟩) (by show S ≠ R; omega) (.bool false)).below (by repeat' (first | (with_reducible exact Below.refl _ _) | (with_reducible assumption) | (with_reducible refine Below.alloc ?_ ?_ _) | (with_reducible refine Below.drew ?_) | (with_reducible refine Below.setCell ?_ ?_ _) | (with_reducible refine Below.stepB (by assumption) ?_ ?_) | go_size))).congr (fun i' _ _ _ => congrArg (Value.int .i64) (sh_same HTK.out HK.out _))
          case measure => simp [intOf]; omega
    · obtain rfl : i = m := by omega
      have HTL : Hid (L.take i = L) := by
        show _ = _
        rw [HN.out, List.take_length]
      have HQ2 := HQ.out
      have HR2 := HR.out
      have HT2 := HT.out
      rw [HTL.out] at HR2 HT2
      rw [HN.out] at HQ2
      have HX := Lib.hid (And.intro HQ2 (And.intro HR2 HT2))
      clear HQ2 HR2 HT2
      go_wp2
      go_ret
      exact ⟨q, R, S, rfl, HX.out.1, HX.out.2.1, HX.out.2.2, hbr⟩
end Go.Proofs.Ytbgpmbaonjehbaa
