/- Contracts: a step appended to an edit list, the clean steps: the program's and the reference's. -/
import Derived.Test.YtbgpmbaonjehbaaEdH
import Derived.Test.YtbgpmbaonjehbaaStepG
import Derived.Deep.RegionLaw
namespace Go.Proofs.Ytbgpmbaonjehbaa
open Go.RowKit
/-- a row of steps of one's own and a yes or no -/
def SOut (w : World) (n : Nat) (g : Nat → ES) (ok : Bool) (e : Ending) (w' : World) : Prop := ∃ A c, e = .returned (.tuple #[.slice A n c, .bool ok]) ∧ (ok = true → ∃ b, A = some ⟨b, 0, none⟩) ∧ Own w' w.heap.size 4 A n (fun i j => (g i).cell j) ∧ Below w.heap.size w w'
theorem SOut.nil {w w' : World} {n c : Nat} {A : Option Addr} {g : Nat → ES} {ok : Bool} (hn : n = 0) (hok : ok = false) (hb : Below w.heap.size w w') : SOut w n g ok (.returned (.tuple #[.slice A 0 c, .bool false])) w' := by
  subst hn hok
  exact ⟨A, c, rfl, fun h => (by cases h), fun h => absurd h (by simp), hb⟩
theorem SOut.row {w w' : World} {n m c b : Nat} {g : Nat → ES} {ok : Bool} (hO : Own w' w.heap.size 4 (some ⟨b, 0, none⟩) m (fun i j => (g i).cell j)) (hn : n = m) (hok : ok = true) (hb : Below w.heap.size w w') : SOut w n g ok (.returned (.tuple #[.slice (some ⟨b, 0, none⟩) m c, .bool true])) w' := by
  subst hn hok
  exact ⟨_, c, rfl, fun _ => ⟨b, rfl⟩, hO, hb⟩
def rowES (f : Nat → ES) (n : Nat) : List Value := flatG 4 (fun i j => (f i).cell j) n
theorem rowES_snoc (f : Nat → ES) (n : Nat) (s : ES) : rowES f n ++ flatG 4 (fun _ j => s.cell j) 1 = rowES (putE f n s) (n + 1) := by
  unfold rowES
  rw [flatG_snoc _ _ (by decide)]
  congr 1
  funext i j
  by_cases h : i = n <;> simp [putE, h]
theorem putE_self (f : Nat → ES) (n : Nat) : putE f n (f n) = f := by
  funext i
  unfold putE
  split
  · next h => rw [h]
  · rfl
theorem own_steps {w : World} {base : Nat} {e : TypeId} {A : Option Addr} {n c : Nat} {f : Nat → ES} (h : w.ownsRow base e 4 (.slice A n c) n (rowES f n)) : Own w base 4 A n (fun i j => (f i).cell j) := own_flat h
theorem ownsRow_cap {w : World} {base : Nat} {e : TypeId} {k n c : Nat} {A : Option Addr} {xs : List Value} (h : w.ownsRow base e k (.slice A n c) n xs) : n ≤ c := by
  rcases h.2 with ⟨hv, h0⟩ | ⟨g, cap, cur, hv, hb, hh, hnc, _⟩
  · omega
  · injection hv with _ _ h3
    omega
theorem ownsRow_blk0 {w : World} {base : Nat} {e : TypeId} {k g : Nat} (h : Blk w g e #[]) (hb : base ≤ g) : w.ownsRow base e k (.slice (some ⟨g, 0, none⟩) 0 0) 0 [] :=
  ⟨by simp, .inr ⟨g, 0, #[], rfl, hb, h, Nat.le_refl _, Nat.zero_le _, by simp, by simp⟩⟩
theorem ownsRow_pos {w : World} {base : Nat} {e : TypeId} {k n c : Nat} {A : Option Addr} {xs : List Value} (h : w.ownsRow base e k (.slice A n c) n xs) (hn : 0 < n) : ∃ b c', (Value.slice A n c) = .slice (some ⟨b, 0, none⟩) n c' := by
  rcases h.2 with ⟨_, h0⟩ | ⟨g, cap, cur, hv, _⟩
  · omega
  · exact ⟨g, cap, hv⟩
theorem appendStep_ok {marks : Int} {f : Nat → ES} {n : Nat} {s : ES} (h : goodEd marks f n = false) : goodEd marks (putE f n s) (n + 1) = false := by
  rcases Bool.eq_false_or_eq_true (goodEd marks (putE f n s) (n + 1)) with h1 | h1
  · rw [good_before h1] at h; cases h
  · exact h1
set_option maxRecDepth 100000 in
set_option maxHeartbeats 4000000 in
theorem AppendStep_any (marks : Int) (b off n c : Nat) (f : Nat → ES) (s : ES) (w : World) (hS : SlES w (some ⟨b, off, none⟩) n f) (hn : n ≤ 500) : Calls Try.prog 7 #[.int .i64 marks, .slice (some ⟨b, off, none⟩) n c, .agg #[.int .i64 s.kind, .int .i64 s.mark, .int .i64 s.by_, .string ⟨s.reason.toArray⟩]] w
    fun e w' => SOut w (cntN (goodEd marks (putE f n s) (n + 1)) (n + 1)) (putE f n s) (goodEd marks (putE f n s) (n + 1)) e w' := by
  have hgd := fun W (hb : Below w.heap.size w W) => IsEditList_any marks (some ⟨b, off, none⟩) n c f W (hS.below hb) (by omega)
  have HS := Lib.hid hS
  rcases Bool.eq_false_or_eq_true (goodEd marks f n) with hg | hg <;> rw [hg] at hgd <;> have HGD := Lib.hid hgd <;> have HG := Lib.hid hg <;> clear hS hgd
  rotate_left
  · have HG2 := Lib.hid (appendStep_ok (s := s) hg)
    clear hg
    go_enter Try.func7, Try.ntmps7
    go_wp2_with (go_at_call 17; refine (HGD.out _ (by repeat' (first | (with_reducible exact Below.refl _ _) | (with_reducible assumption) | (with_reducible refine Below.alloc ?_ ?_ _) | (with_reducible refine Below.drew ?_) | (with_reducible refine Below.setCell ?_ ?_ _) | (with_reducible refine Below.stepB (by assumption) ?_ ?_) | go_size))).mono ?_; rintro e w1 ⟨rfl, hbw1⟩; obtain ⟨hzw1, hcw1, hfw1⟩ := bfacts hbw1; (try simp at hzw1 hcw1 hfw1); (try (have : w.heap.size < w1.heap.size := by omega)); (try (have : w.heap.size + 1 < w1.heap.size := by omega)); (try (have : w.heap.size + 1 + 1 < w1.heap.size := by omega)); (try (have : w.heap.size + 1 + 1 + 1 < w1.heap.size := by omega)))
    go_ret2
    exact SOut.nil (cntN_f HG2.out) HG2.out (by repeat' (first | (with_reducible exact Below.refl _ _) | (with_reducible assumption) | (with_reducible refine Below.alloc ?_ ?_ _) | (with_reducible refine Below.drew ?_) | (with_reducible refine Below.setCell ?_ ?_ _) | (with_reducible refine Below.stepB (by assumption) ?_ ?_) | go_size))
  clear hg
  obtain ⟨q0, hq0, hy0, hy1, hy2⟩ := info_parts es_info
  go_enter Try.func7, Try.ntmps7
  go_wp2_with fail
  refine (HGD.out _ (by repeat' (first | (with_reducible exact Below.refl _ _) | (with_reducible assumption) | (with_reducible refine Below.alloc ?_ ?_ _) | (with_reducible refine Below.drew ?_) | (with_reducible refine Below.setCell ?_ ?_ _) | (with_reducible refine Below.stepB (by assumption) ?_ ?_) | go_size))).mono ?_
  rintro e w1 ⟨rfl, hbw1⟩
  have hz1 := hbw1.size
  simp at hz1
  have hwl : w.heap.size < w1.heap.size := by omega
  have hB1 := (blk_new1 (g := w.heap.size) (t := 26) (cs := #[.int .i64 s.kind, .int .i64 s.mark, .int .i64 s.by_, .string ⟨s.reason.toArray⟩]) w rfl).below hbw1 (by simp)
  have x0 : w1.cell? ⟨w.heap.size, 0, none⟩ = some (.int .i64 s.kind) := hB1.cell 0
  have x1 : w1.cell? ⟨w.heap.size, 1, none⟩ = some (.int .i64 s.mark) := hB1.cell 1
  have x2 : w1.cell? ⟨w.heap.size, 2, none⟩ = some (.int .i64 s.by_) := hB1.cell 2
  have x3 : w1.cell? ⟨w.heap.size, 3, none⟩ = some (.string ⟨s.reason.toArray⟩) := hB1.cell 3
  have HBW := Lib.hid (show Below w.heap.size w w1 from by repeat' (first | (with_reducible exact Below.refl _ _) | (with_reducible assumption) | (with_reducible refine Below.alloc ?_ ?_ _) | (with_reducible refine Below.drew ?_) | (with_reducible refine Below.setCell ?_ ?_ _) | (with_reducible refine Below.stepB (by assumption) ?_ ?_) | go_size))
  have HCN := Lib.hid (fun (W : World) (hb : Below w1.heap.size w1 W) (q j : Nat) (hq : q < n) (hj : j < 4) => show W.cell? ⟨b, off + q * 4 + j, none⟩ = some ((f q).cell j) from by
    obtain ⟨b1, o1, e1, _, hc⟩ := (Sl.below HS.out (HBW.out.trans (hb.mono HBW.out.size))) (by omega)
    obtain ⟨rfl, rfl⟩ : b = b1 ∧ off = o1 := by simpa using e1
    exact hc q j hq hj)
  clear hB1 hbw1 HGD
  go_upto_region 3 with fail
  go_cut [8] (fun v8 wx => ∃ b8 c8 : Nat, v8 = .slice (some ⟨b8, 0, none⟩) (n + 1) c8 ∧ Hid (wx.ownsRow w1.heap.size 26 4 (.slice (some ⟨b8, 0, none⟩) (n + 1) c8) (n + 1) (rowES (putE f n s) (n + 1))) ∧ Below w1.heap.size w1 wx)
  case first =>
    go_region_law (first
      | (refine step_append_rowG (by rfl) _ _ 24 (by rfl) w1.heap.size 26 q0 _ 4 40 Try.underlying24 hq0 hy0 hy1 hy2 (by rfl) (by decide) (.slice (some ⟨w1.heap.size, 0, none⟩) 0 0) 0 [] (by rfl) ?_ b off n c (fun q j => (f q).cell j) (by rfl) ?_ (fun q j => es_one f q j) (by omega) (by decide) ?_ ?_; go_must (focus first | exact ownsRow_blk0 (Blk.drew (blk_new1 _ (by simp))) (by omega) | exact ownsRow_blk0 (Blk.drew ((blk_new1 _ (by simp)).alloc _)) (by omega)); go_loud (focus exact fun q j hq hj => HCN.out _ (by repeat' (first | (with_reducible exact Below.refl _ _) | (with_reducible assumption) | (with_reducible refine Below.alloc ?_ ?_ _) | (with_reducible refine Below.drew ?_) | (with_reducible refine Below.setCell ?_ ?_ _) | (with_reducible refine Below.stepB (by assumption) ?_ ?_) | go_size)) q j (by omega) hj); go_loud (focus first | omega | (simp; omega) | (simp; done)); intro v5 w5 hO5 hb5 hk5; rw [Nat.zero_add, List.nil_append] at hO5; obtain ⟨A5, c5, rfl⟩ := ownsRow_form hO5; have hB45 : Below w1.heap.size w1 w5 := (by repeat' (first | (with_reducible exact Below.refl _ _) | (with_reducible assumption) | (with_reducible refine Below.alloc ?_ ?_ _) | (with_reducible refine Below.drew ?_) | (with_reducible refine Below.setCell ?_ ?_ _) | (with_reducible refine Below.stepB (by assumption) ?_ ?_) | go_size)); have r0 := (hB45.cell (p := ⟨w.heap.size, _, none⟩) hwl).trans x0; have r1 := (hB45.cell (p := ⟨w.heap.size, _, none⟩) hwl).trans x1; have r2 := (hB45.cell (p := ⟨w.heap.size, _, none⟩) hwl).trans x2; have r3 := (hB45.cell (p := ⟨w.heap.size, _, none⟩) hwl).trans x3; clear hB45; have hz5 := hb5.size; (try simp at hz5); (try (have hBf5 : Blk w5 (w1.heap.size + 1) 26 #[.int .i64 s.kind, .int .i64 s.mark, .int .i64 s.by_, .string ⟨s.reason.toArray⟩] := (hk5 _ (by first | (simp; done) | (simp; omega)) (by simp [Value.ownBlock])).trans (show Blk (((w1.alloc (.cells #[] 26)).alloc (.cells #[.int .i64 s.kind, .int .i64 s.mark, .int .i64 s.by_, .string ⟨s.reason.toArray⟩] 26))).drew (w1.heap.size + 1) 26 #[.int .i64 s.kind, .int .i64 s.mark, .int .i64 s.by_, .string ⟨s.reason.toArray⟩] from Blk.drew (blk_new1 (w1.alloc (.cells #[] 26)) (by simp))))); clear hk5)
      | (refine step_append_rowG (by rfl) _ _ 24 (by rfl) w1.heap.size 26 q0 _ 4 40 Try.underlying24 hq0 hy0 hy1 hy2 (by rfl) (by decide) (.slice (some ⟨w1.heap.size + 1, 0, none⟩) 0 0) 0 [] (by rfl) ?_ b off n c (fun q j => (f q).cell j) (by rfl) ?_ (fun q j => es_one f q j) (by omega) (by decide) ?_ ?_; go_must (focus first | exact ownsRow_blk0 (Blk.drew (blk_new1 _ (by simp))) (by omega) | exact ownsRow_blk0 (Blk.drew ((blk_new1 _ (by simp)).alloc _)) (by omega)); go_loud (focus exact fun q j hq hj => HCN.out _ (by repeat' (first | (with_reducible exact Below.refl _ _) | (with_reducible assumption) | (with_reducible refine Below.alloc ?_ ?_ _) | (with_reducible refine Below.drew ?_) | (with_reducible refine Below.setCell ?_ ?_ _) | (with_reducible refine Below.stepB (by assumption) ?_ ?_) | go_size)) q j (by omega) hj); go_loud (focus first | omega | (simp; omega) | (simp; done)); intro v5 w5 hO5 hb5 hk5; rw [Nat.zero_add, List.nil_append] at hO5; obtain ⟨A5, c5, rfl⟩ := ownsRow_form hO5; have hB45 : Below w1.heap.size w1 w5 := (by repeat' (first | (with_reducible exact Below.refl _ _) | (with_reducible assumption) | (with_reducible refine Below.alloc ?_ ?_ _) | (with_reducible refine Below.drew ?_) | (with_reducible refine Below.setCell ?_ ?_ _) | (with_reducible refine Below.stepB (by assumption) ?_ ?_) | go_size)); have r0 := (hB45.cell (p := ⟨w.heap.size, _, none⟩) hwl).trans x0; have r1 := (hB45.cell (p := ⟨w.heap.size, _, none⟩) hwl).trans x1; have r2 := (hB45.cell (p := ⟨w.heap.size, _, none⟩) hwl).trans x2; have r3 := (hB45.cell (p := ⟨w.heap.size, _, none⟩) hwl).trans x3; clear hB45; have hz5 := hb5.size; (try simp at hz5); (try (have hBf5 : Blk w5 w1.heap.size 26 #[.int .i64 s.kind, .int .i64 s.mark, .int .i64 s.by_, .string ⟨s.reason.toArray⟩] := (hk5 _ (by first | (simp; done) | (simp; omega)) (by simp [Value.ownBlock])).trans (show Blk (((w1.alloc (.cells #[.int .i64 s.kind, .int .i64 s.mark, .int .i64 s.by_, .string ⟨s.reason.toArray⟩] 26)).alloc (.cells #[] 26))).drew w1.heap.size 26 #[.int .i64 s.kind, .int .i64 s.mark, .int .i64 s.by_, .string ⟨s.reason.toArray⟩] from Blk.drew ((blk_new1 w1 rfl).alloc _)))); clear hk5)
      | (refine step_append_rowG (by rfl) _ _ 24 (by rfl) w1.heap.size 26 q0 _ 4 40 Try.underlying24 hq0 hy0 hy1 hy2 (by rfl) (by decide) _ n (rowES f n) (by rfl) ?_ _ 0 1 1 (fun _ j => s.cell j) (by rfl) ?_ (fun _ j => es_one (fun _ => s) 0 j) (by omega) (by decide) ?_ ?_; go_loud (focus first | exact hO5 | exact ownsRow_below hO5 (Below.alloc (Below.refl _ _) (Nat.le_refl _) _)); go_loud (focus first | exact es_box hBf5 | exact es_box (blk_new1 w5 rfl)); go_loud (focus first | omega | (simp; omega) | (simp; done)); intro v6 w6 hO6 hb6 hk6; clear hk6; obtain ⟨A6, c6, rfl⟩ := ownsRow_form hO6; obtain ⟨B6, c6', e6⟩ := ownsRow_pos hO6 (Nat.succ_pos _); rw [e6] at hO6 ⊢; clear e6; have hz6 := hb6.size; (try simp at hz6)))
    all_goals
      rw [rowES_snoc] at hO6
      have HO6 := Lib.hid hO6
      clear hO6
      go_wp2_with fail
      go_meet
      exact ⟨B6, c6', rfl, HO6.out, by repeat' (first | (with_reducible exact Below.refl _ _) | (with_reducible assumption) | (with_reducible refine Below.alloc ?_ ?_ _) | (with_reducible refine Below.drew ?_) | (with_reducible refine Below.setCell ?_ ?_ _) | (with_reducible refine Below.stepB (by assumption) ?_ ?_) | go_size)⟩
  obtain ⟨b8, c8, rfl, hO8, hbc⟩ := hcut
  have HOC := Lib.hid (own_steps hO8.out)
  have HBC := Lib.hid (HBW.out.trans (hbc.mono HBW.out.size))
  have hgd := fun W (hb : Below wc.heap.size wc W) => IsEditList_any marks (some ⟨b8, 0, none⟩) (n + 1) c8 (putE f n s) W (HOC.out.sl.below hb) (by omega)
  clear x0 x1 x2 x3 hO8 hbc HCN
  rcases Bool.eq_false_or_eq_true (goodEd marks (putE f n s) (n + 1)) with hg | hg <;> rw [hg] at hgd <;> have HGD := Lib.hid hgd <;> have HG2 := Lib.hid hg <;> clear hgd hg
  · go_wp2_with fail
    refine (HGD.out _ (Below.refl _ _)).mono ?_
    rintro e w2 ⟨rfl, hbw2⟩
    have HO2 := Lib.hid (HOC.out.below hbw2)
    have HB2 := Lib.hid (HBC.out.trans (hbw2.mono HBC.out.size))
    go_wp2
    go_ret2
    exact SOut.row (HO2.out.more (by omega)) (cntN_t HG2.out) HG2.out HB2.out
  · go_wp2_with fail
    refine (HGD.out _ (Below.refl _ _)).mono ?_
    rintro e w2 ⟨rfl, hbw2⟩
    have HB2 := Lib.hid (HBC.out.trans (hbw2.mono HBC.out.size))
    go_wp2
    go_ret2
    exact SOut.nil (cntN_f HG2.out) HG2.out HB2.out
end Go.Proofs.Ytbgpmbaonjehbaa
