/- Contracts: copies of lists of numbers; the live steps. -/
import Derived.Test.YtbgpmbaonjehbaaEdB
import Derived.Test.YtbgpmbaonjehbaaRowS
namespace Go.Proofs.Ytbgpmbaonjehbaa
open Go.RowKit
/-- indices as numbers -/
def natV (L : List Nat) : Nat → Int := fun i => ((L.getD i 0 : Nat) : Int)
def natX (L : List Nat) : List Value := L.map (fun (i : Nat) => Value.int .i64 (i : Int))
theorem natX_len (L : List Nat) : (natX L).length = L.length := by simp [natX]
theorem natX_snoc (L : List Nat) (i : Nat) : natX L ++ [Value.int .i64 (i : Int)] = natX (L ++ [i]) := by simp [natX]
theorem natX_drop (L : List Nat) (m : Nat) (h : L.length = m + 1) : (natX L).take m = natX L.dropLast := by
  rw [List.dropLast_eq_take, h]
  simp [natX]
theorem own_nat {w : World} {base : Nat} {e : TypeId} {A : Option Addr} {n c : Nat} {L : List Nat} (hn : n = L.length) (h : w.ownsRow base e 1 (.slice A n c) n (natX L)) : OwnI w base A n (natV L) :=
  ownsRow_own h fun i j hi hj => by
    obtain rfl : j = 0 := by omega
    subst hn
    simp [natX, natV, List.getD, hi]
theorem own_shrink {w : World} {base : Nat} {e : TypeId} {A : Option Addr} {n c : Nat} {xs : List Value} (h : w.ownsRow base e 1 (.slice A (n + 1) c) (n + 1) xs) : w.ownsRow base e 1 (.slice A n c) n (xs.take n) := by
  obtain ⟨h1, h2⟩ := h
  rcases h2 with ⟨h2, h0⟩ | ⟨g, cap, cur, hv, hb, hh, hnc, hmx, hsz, htk⟩
  · omega
  · injection hv with hA _ hc
    subst hA hc
    refine ⟨by rw [List.length_take, h1]; omega, .inr ⟨g, c, cur, rfl, hb, hh, by omega, hmx, hsz, ?_⟩⟩
    rw [← htk, List.take_take]
    congr 1
    omega
theorem nat_info : (Try.prog.info? 3).map (fun i => (i.zero, i.size, i.bytes)) = some (some (.int .i64 0), 1, 8) := by kernel_rfl
theorem one_box {w : World} {g : Nat} {t : TypeId} {z : Value} (h : Blk w g t #[z]) : ∀ i j, i < 1 → j < 1 → w.cell? ⟨g, 0 + i * 1 + j, none⟩ = some z := fun i j hi hj => by
  obtain rfl : i = 0 := by omega
  obtain rfl : j = 0 := by omega
  exact h.cell 0
theorem blk_new1 {g : Nat} {t : TypeId} {cs : Array Value} (w : World) (hg : g = w.heap.size) : Blk (w.alloc (.cells cs t)) g t cs := by
  subst hg
  exact Blk.new w t cs
def cellN (L : List Nat) (i _j : Nat) : Value := .int .i64 (natV L i)
theorem flat_nat {L : List Nat} {n : Nat} (hn : n = L.length) : flatG 1 (cellN L) n = natX L := by
  subst hn
  refine List.ext_getElem? (fun q => ?_)
  rcases Nat.lt_or_ge q L.length with h | h
  · have := flatG_get (k := 1) (g := cellN L) (n := L.length) (i := q) (j := 0) h (by decide)
    rw [Nat.mul_one, Nat.add_zero] at this
    rw [this]
    simp [cellN, natX, natV, List.getD, h]
  · rw [List.getElem?_eq_none (by rw [flatG_len]; omega), List.getElem?_eq_none (by rw [natX_len]; exact h)]
/-- a list of indices of one's own -/
def NatOut (w : World) (L : List Nat) (e : Ending) (w' : World) : Prop :=
  ∃ b c, e = .returned (.slice (some ⟨b, 0, none⟩) L.length c) ∧ w'.ownsRow w.heap.size 3 1 (.slice (some ⟨b, 0, none⟩) L.length c) L.length (natX L) ∧ L.length ≤ c ∧ Below w.heap.size w w'
theorem NatOut.row {w w' : World} {base b c : Nat} {L L' : List Nat} (hO : w'.ownsRow base 3 1 (.slice (some ⟨b, 0, none⟩) L'.length c) L'.length (natX L')) (hL : L = L') (hc : L'.length ≤ c) (hB : w.heap.size = base) (hb : Below w.heap.size w w') : NatOut w L (.returned (.slice (some ⟨b, 0, none⟩) L'.length c)) w' := by
  subst hL hB
  exact ⟨_, _, rfl, hO, hc, hb⟩
theorem ownsRow_low {w : World} {base base' : Nat} {e : TypeId} {k n : Nat} {v : Value} {xs : List Value} (h : w.ownsRow base e k v n xs) (hb : base' ≤ base) : w.ownsRow base' e k v n xs := by
  obtain ⟨h1, h2⟩ := h
  refine ⟨h1, ?_⟩
  rcases h2 with h2 | ⟨g, cap, cur, rfl, p, q, d⟩
  · exact .inl h2
  · exact .inr ⟨g, cap, cur, rfl, Nat.le_trans hb p, q, d⟩
set_option maxHeartbeats 400000 in
theorem copyInts_any (b off n c : Nat) (L : List Nat) (w : World) (hS : SlI w (some ⟨b, off, none⟩) n (natV L)) (hn : n = L.length) (hl : n ≤ 1000) : Calls Try.prog 55 #[.slice (some ⟨b, off, none⟩) n c] w
    fun e w' => NatOut w L e w' := by
  obtain ⟨i0, hi0, hz0, hz1, hz2⟩ := info_parts nat_info
  have hO0 := Lib.hid (ownsRow_empty w 3 1)
  have HC := Lib.hid (fun (W : World) (hb : Below w.heap.size w W) (q j : Nat) (hq : q < n) (hj : j < 1) => show W.cell? ⟨b, off + q * 1 + j, none⟩ = some (cellN L q j) from by
    obtain ⟨b1, o1, e1, _, hc⟩ := (Sl.below hS hb) (by omega)
    obtain ⟨rfl, rfl⟩ : b = b1 ∧ off = o1 := by simpa using e1
    exact hc q j hq hj)
  have HF := Lib.hid (flat_nat hn)
  have HN := Lib.hid hn
  clear hS hn
  go_enter Try.func55, Try.ntmps55
  go_wp2_with (at_builtin; refine wpList_append_rowS _ rfl _ _ 35 rfl w.heap.size 3 i0 _ 1 8 Try.underlying35 hi0 hz0 hz1 hz2 rfl (by decide) (.slice (some ⟨w.heap.size, 0, none⟩) 0 0) 0 [] rfl hO0.out (by simp) b off n c (cellN L) rfl ?_ (fun _ _ => rfl) (by omega) (by decide) ?_ ?_; go_must (focus exact HC.out _ (by repeat' (first | (with_reducible exact Below.refl _ _) | (with_reducible assumption) | (with_reducible refine Below.alloc ?_ ?_ _) | (with_reducible refine Below.drew ?_) | (with_reducible refine Below.setCell ?_ ?_ _) | (with_reducible refine Below.stepB (by assumption) ?_ ?_) | go_size))); go_must (focus (simp; done)); intro b9 c9 w9 hO9 hc9 hb9 hbw9; rw [Nat.zero_add, List.nil_append, HF.out] at hO9; have HO9 := Lib.hid hO9; have HB9 := Lib.hid (show Below w.heap.size w w9 from by repeat' (first | (with_reducible exact Below.refl _ _) | (with_reducible assumption) | (with_reducible refine Below.alloc ?_ ?_ _) | (with_reducible refine Below.drew ?_) | (with_reducible refine Below.setCell ?_ ?_ _) | (with_reducible refine Below.stepB (by assumption) ?_ ?_) | go_size)); clear hO9 hb9 hbw9)
  go_ret
  have h1 := HO9.out
  have h2 := HN.out
  subst h2
  simp only [Nat.zero_add] at hc9 ⊢
  exact NatOut.row h1 rfl hc9 rfl HB9.out
set_option maxHeartbeats 400000 in
theorem l1Own_any (b off n c : Nat) (L : List Nat) (w : World) (hS : SlI w (some ⟨b, off, none⟩) n (natV L)) (hn : n = L.length) (hl : n ≤ 1000) : Calls Try.prog 56 #[.slice (some ⟨b, off, none⟩) n c] w
    fun e w' => NatOut w L e w' := by
  obtain ⟨i0, hi0, hz0, hz1, hz2⟩ := info_parts nat_info
  have hO0 := Lib.hid (ownsRow_empty w 3 1)
  have HC := Lib.hid (fun (W : World) (hb : Below w.heap.size w W) (q j : Nat) (hq : q < n) (hj : j < 1) => show W.cell? ⟨b, off + q * 1 + j, none⟩ = some (cellN L q j) from by
    obtain ⟨b1, o1, e1, _, hc⟩ := (Sl.below hS hb) (by omega)
    obtain ⟨rfl, rfl⟩ : b = b1 ∧ off = o1 := by simpa using e1
    exact hc q j hq hj)
  have HF := Lib.hid (flat_nat hn)
  have HN := Lib.hid hn
  clear hS hn
  go_enter Try.func56, Try.ntmps56
  go_wp2_with (at_builtin; refine wpList_append_rowS _ rfl _ _ 35 rfl w.heap.size 3 i0 _ 1 8 Try.underlying35 hi0 hz0 hz1 hz2 rfl (by decide) (.slice (some ⟨w.heap.size, 0, none⟩) 0 0) 0 [] rfl hO0.out (by simp) b off n c (cellN L) rfl ?_ (fun _ _ => rfl) (by omega) (by decide) ?_ ?_; go_must (focus exact HC.out _ (by repeat' (first | (with_reducible exact Below.refl _ _) | (with_reducible assumption) | (with_reducible refine Below.alloc ?_ ?_ _) | (with_reducible refine Below.drew ?_) | (with_reducible refine Below.setCell ?_ ?_ _) | (with_reducible refine Below.stepB (by assumption) ?_ ?_) | go_size))); go_must (focus (simp; done)); intro b9 c9 w9 hO9 hc9 hb9 hbw9; rw [Nat.zero_add, List.nil_append, HF.out] at hO9; have HO9 := Lib.hid hO9; have HB9 := Lib.hid (show Below w.heap.size w w9 from by repeat' (first | (with_reducible exact Below.refl _ _) | (with_reducible assumption) | (with_reducible refine Below.alloc ?_ ?_ _) | (with_reducible refine Below.drew ?_) | (with_reducible refine Below.setCell ?_ ?_ _) | (with_reducible refine Below.stepB (by assumption) ?_ ?_) | go_size)); clear hO9 hb9 hbw9)
  go_ret
  have h1 := HO9.out
  have h2 := HN.out
  subst h2
  simp only [Nat.zero_add] at hc9 ⊢
  exact NatOut.row h1 rfl hc9 rfl HB9.out
set_option maxRecDepth 100000 in
set_option maxHeartbeats 1000000 in
theorem l14Live_any (A : Option Addr) (n c : Nat) (f : Nat → ES) (w : World) (hS : SlES w A n f) (hn : n ≤ 1000) : Calls Try.prog 39 #[.slice A n c] w
    fun e w' => NatOut w (liveN f n) e w' := by
  obtain ⟨q0, hq0, hy0, hy1, hy2⟩ := info_parts nat_info
  have hO0 := Lib.hid (ownsRow_empty w 3 1)
  have HS := Lib.hid hS
  clear hS
  go_enter Try.func39, Try.ntmps39
  go_wp2
  go_loopw [3, 4] (fun v3 v4 wr => ∃ k m b3 c3 : Nat, k ≤ n ∧ v4 = .int .i64 k ∧ v3 = .slice (some ⟨b3, 0, none⟩) m c3 ∧ m ≤ k ∧ m ≤ c3 ∧ Hid (m = (liveN f k).length) ∧ Hid (wr.ownsRow w.heap.size 3 1 (.slice (some ⟨b3, 0, none⟩) m c3) m (natX (liveN f k))) ∧ Below w.heap.size w wr) (fun _ v4 _ => n - (intOf v4).toNat)
  case atStart => exact ⟨0, 0, _, _, Nat.zero_le _, rfl, rfl, Nat.zero_le _, Nat.zero_le _, rfl, hO0.out, by repeat' (first | (with_reducible exact Below.refl _ _) | (with_reducible assumption) | (with_reducible refine Below.alloc ?_ ?_ _) | (with_reducible refine Below.drew ?_) | (with_reducible refine Below.setCell ?_ ?_ _) | (with_reducible refine Below.stepB (by assumption) ?_ ?_) | go_size)⟩
  case round =>
    clear hO0
    obtain ⟨k, m, b3, c3, hk, rfl, rfl, hmk, hmc, hM, hO, hbr⟩ := hrel
    have hzr := hbr.size
    have hc9 : c3 ≤ 9223372036854775807 := by
      rcases hO.out.2 with ⟨hv, h0⟩ | ⟨g, cap, cur, hv, hb, hh, hnc, hmx, _⟩
      · cases hv
      · injection hv with _ _ h3
        simp only [maxLen] at hmx
        omega
    by_cases hlt : k < n
    · obtain ⟨b, off, rfl, hbl, hbl2, c0, -, -, -⟩ := HS.out.at hbr hlt
      by_cases h3 : (f k).kind = 3
      · have HE := Lib.hid (liveN_undo (f := f) (k := k) h3)
        have hb3 : ((f k).kind != 3) = false := by simpa using h3
        generalize liveN f k = L at hM hO HE
        generalize (f k).kind = kd at c0 hb3
        clear h3
        rcases Nat.eq_zero_or_pos m with rfl | hm
        · have HE2 : Hid (liveN f (k + 1) = L) := by
            show _ = _
            rw [HE.out, List.length_eq_zero_iff.1 hM.out.symm]
            rfl
          go_wp2
          go_roundw
          case rel => exact ⟨k + 1, 0, b3, c3, by omega, by go_num, rfl, Nat.zero_le _, hmc, by rw [HE2.out]; exact hM, by rw [HE2.out]; exact hO, hbr⟩
          case measure => simp [intOf]; omega
        · obtain ⟨p, rfl⟩ : ∃ p, m = p + 1 := ⟨m - 1, by omega⟩
          have HE2 : Hid (natX (liveN f (k + 1)) = (natX L).take p ∧ p = (liveN f (k + 1)).length) := by
            show _ ∧ _
            rw [HE.out, natX_drop L p hM.out.symm, List.length_dropLast, ← hM.out]
            exact ⟨rfl, rfl⟩
          have hpc : (p : Int) ≤ c3 := by omega
          go_wp2
          go_roundw
          case rel => exact ⟨k + 1, p, b3, c3, by omega, by go_num, by simp, by omega, by omega, HE2.out.2, by rw [HE2.out.1]; exact own_shrink hO.out, hbr⟩
          case measure => simp [intOf]; omega
      · have HE := Lib.hid (liveN_step (f := f) (k := k) h3)
        have hb3 : ((f k).kind != 3) = true := by simpa using h3
        generalize liveN f k = L at hM hO HE
        generalize (f k).kind = kd at c0 hb3
        clear h3
        go_wp2_with (at_builtin; refine wpList_append_rowS _ rfl _ _ 35 rfl w.heap.size 3 q0 _ 1 8 Try.underlying35 hq0 hy0 hy1 hy2 rfl (by decide) (.slice (some ⟨b3, 0, none⟩) m c3) m (natX L) rfl (ownsRow_below hO.out (show Below wr.heap.size wr _ from by repeat' (first | (with_reducible exact Below.refl _ _) | (with_reducible assumption) | (with_reducible refine Below.alloc ?_ ?_ _) | (with_reducible refine Below.drew ?_) | (with_reducible refine Below.setCell ?_ ?_ _) | (with_reducible refine Below.stepB (by assumption) ?_ ?_) | go_size))) (by simp) _ 0 1 1 (fun _ _ => .int .i64 (k : Int)) rfl ?_ (fun _ _ => rfl) (by omega) (by decide) ?_ ?_; go_must (focus exact one_box (blk_new1 _ rfl)); go_must (focus (first | omega | (simp; omega) | (simp; done))); intro b9 c9 w9 hO9 hc9 hb9 hbw9; have hz9 := hbw9.size; (try simp at hz9))
        go_roundw
        case rel =>
          refine ⟨k + 1, m + 1, b9, c9, by omega, by go_num, rfl, by omega, hc9, ?_, ?_, by repeat' (first | (with_reducible exact Below.refl _ _) | (with_reducible assumption) | (with_reducible refine Below.alloc ?_ ?_ _) | (with_reducible refine Below.drew ?_) | (with_reducible refine Below.setCell ?_ ?_ _) | (with_reducible refine Below.stepB (by assumption) ?_ ?_) | go_size)⟩
          · show _ = _
            rw [HE.out, List.length_append, List.length_singleton, ← hM.out]
          · show World.ownsRow _ _ _ _ _ _ _
            rw [HE.out, ← natX_snoc]
            exact hO9
        case measure => simp [intOf]; omega
    · obtain rfl : k = n := by omega
      have HL := Lib.hid (fun W (hb : Below wr.heap.size wr W) => l1Own_any b3 0 m c3 (liveN f k) W ((own_nat hM.out hO.out).sl.below hb) hM.out (by omega))
      go_wp2_with fail
      refine (HL.out _ (Below.refl _ _)).mono ?_
      rintro e w2 ⟨b2, c2, rfl, hO2, hc2, hb2⟩
      have HO2 := Lib.hid hO2
      clear hO2
      have hz2 := hb2.size
      go_wp2
      go_ret
      exact ⟨_, _, rfl, ownsRow_low HO2.out (by omega), hc2, by repeat' (first | (with_reducible exact Below.refl _ _) | (with_reducible assumption) | (with_reducible refine Below.alloc ?_ ?_ _) | (with_reducible refine Below.drew ?_) | (with_reducible refine Below.setCell ?_ ?_ _) | (with_reducible refine Below.stepB (by assumption) ?_ ?_) | go_size)⟩
end Go.Proofs.Ytbgpmbaonjehbaa
