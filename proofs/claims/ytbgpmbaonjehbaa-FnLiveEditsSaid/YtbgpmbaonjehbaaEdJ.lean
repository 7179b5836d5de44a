/- Contracts: a step appended to an edit list (the reference's); the clean steps: the program's and the reference's. -/
import Derived.Test.YtbgpmbaonjehbaaEdI
namespace Go.Proofs.Ytbgpmbaonjehbaa
open Go.RowKit
theorem wpList_append_rowK {P : Program} (w : World) {ops : Array Oper} {rest : List Oper} {o : Oper} {a : Act} {Q : Exit → Act → World → Prop} (hgd : o.guard = none) (s x : Operand) (t : TypeId)
    (ho : o.op = .call { callee := .builtin .append, args := #[s, x], argTypes := #[t, t] })
    (base : Nat) (e : TypeId) (i : TypeInfo) (z : Value) (k bytes : Nat) (ht : P.underlying t = some (.slice e)) (hi : P.info? e = some i) (hz : i.zero = some z) (hsize : i.size = k) (hby : i.bytes = bytes)
    (hzs : z.cells.size = k) (hk : 0 < k)
    (v : Value) (n : Nat) (xs : List Value) (hs : a.eval s = v) (hown : w.ownsRow base e k v n xs) (hv : v ≠ .slice none 0 0)
    (b off m c : Nat) (g : Nat → Nat → Value) (hx : a.eval x = .slice (some ⟨b, off, none⟩) m c) (hcell : ∀ i j, i < m → j < k → w.cell? ⟨b, off + i * k + j, none⟩ = some (g i j))
    (h1 : ∀ i j, (g i j).oneCell' = true) (hn : n + m ≤ 1048576) (hbs : bytes ≤ 1000) (hbase : base ≤ w.heap.size)
    (h : ∀ b' c' w', w'.ownsRow base e k (.slice (some ⟨b', 0, none⟩) (n + m) c') (n + m) (xs ++ flatG k g m) → n + m ≤ c' → base ≤ b' → Below base w w' → (∀ q, q < w.heap.size → some q ≠ v.ownBlock → w'.heap[q]? = w.heap[q]?) → wpList P ops Q rest (a.put o.dst (.slice (some ⟨b', 0, none⟩) (n + m) c')) w') : wpList P ops Q (o :: rest) a w := by
  refine wpList_append_own w hgd s x t ho base e i z k bytes ht hi hz hsize hby hzs hk v n xs hs hown ⟨b, off, none⟩ m c (flatG k g m) hx (flatG_len k g m) ?_ ?_ (by unfold maxLen; omega) ?_ hbase ?_
  · intro q u hu
    obtain ⟨h2, h3, rfl⟩ := flatG_at hk hu
    have h4 := hcell _ _ h2 h3
    rw [Nat.add_assoc, Nat.mul_comm (q / k) k, Nat.div_add_mod] at h4
    rw [Addr.add_lit]
    exact h4
  · intro u hu
    obtain ⟨i, j, rfl⟩ := flatG_mem hu
    exact h1 i j
  · exact Nat.le_trans (Nat.mul_le_mul hn hbs) (by decide)
  · intro v' w' h1 h2 h3
    have hb : Below base w w' := (Below.refl base w).grown h2 hbase (by
      intro k hk
      rcases hown.2 with ⟨rfl, _⟩ | ⟨g, cap, cur, rfl, hg, _⟩
      · simp [Value.ownBlock] at hk
      · simp [Value.ownBlock] at hk
        omega)
    rcases h1.2 with ⟨rfl, _⟩ | ⟨g', cap, cur, rfl, hg, hh, hnc, _⟩
    · exact absurd (h3.1 rfl).1 hv
    · exact h g' cap w' h1 hnc hg hb (fun q hq hne => h2.block q hq hne)
/-- another row of one's own, of another type, stays behind an append -/
theorem ownsRow_keep {w w' : World} {base base' : Nat} {e e' : TypeId} {k k' n n' b m c : Nat} {v : Value} {xs xs' : List Value} (h : w.ownsRow base e k (.slice (some ⟨b, 0, none⟩) m c) n xs) (h' : w.ownsRow base' e' k' v n' xs') (ht : e ≠ e') (hk : ∀ q, q < w.heap.size → some q ≠ v.ownBlock → w'.heap[q]? = w.heap[q]?) :
    w'.ownsRow base e k (.slice (some ⟨b, 0, none⟩) m c) n xs := by
  obtain ⟨h1, h2⟩ := h
  refine ⟨h1, ?_⟩
  rcases h2 with h2 | ⟨g, cap, cur, hv, p, hh, d⟩
  · exact .inl h2
  · refine .inr ⟨g, cap, cur, hv, p, (hk g (Blk.lt (t := e) (cs := cur) hh) ?_).trans hh, d⟩
    intro hg
    rcases h'.2 with ⟨hv', _⟩ | ⟨g', cap', cur', hv', p', hh', _⟩
    · rw [hv'] at hg
      simp [Value.ownBlock] at hg
    · rw [hv'] at hg
      simp [Value.ownBlock] at hg
      subst hg
      rw [hh'] at hh
      injection hh with hh
      injection hh with _ hh _
      exact ht hh.symm
set_option maxRecDepth 100000 in
set_option maxHeartbeats 4000000 in
theorem specAppend_any (marks : Int) (b off n c : Nat) (f : Nat → ES) (s : ES) (w : World) (hS : SlES w (some ⟨b, off, none⟩) n f) (hn : n ≤ 500) : Calls Try.prog 8 #[.int .i64 marks, .slice (some ⟨b, off, none⟩) n c, .agg #[.int .i64 s.kind, .int .i64 s.mark, .int .i64 s.by_, .string ⟨s.reason.toArray⟩]] w
    fun e w' => SOut w (cntN (goodEd marks (putE f n s) (n + 1)) (n + 1)) (putE f n s) (goodEd marks (putE f n s) (n + 1)) e w' := by
  have HS := Lib.hid hS
  clear hS
  obtain ⟨q0, hq0, hy0, hy1, hy2⟩ := info_parts es_info
  go_enter Try.func8, Try.ntmps8
  go_upto_region 1 with fail
  have hB1 := blk_new1 (g := w.heap.size) (t := 26) (cs := #[.int .i64 s.kind, .int .i64 s.mark, .int .i64 s.by_, .string ⟨s.reason.toArray⟩]) w rfl
  have hbw1 : Below w.heap.size w (w.alloc (.cells #[.int .i64 s.kind, .int .i64 s.mark, .int .i64 s.by_, .string ⟨s.reason.toArray⟩] 26)) := by repeat' (first | (with_reducible exact Below.refl _ _) | (with_reducible assumption) | (with_reducible refine Below.alloc ?_ ?_ _) | (with_reducible refine Below.drew ?_) | (with_reducible refine Below.setCell ?_ ?_ _) | (with_reducible refine Below.stepB (by assumption) ?_ ?_) | go_size)
  have hz1 : w.heap.size + 1 ≤ (w.alloc (.cells #[.int .i64 s.kind, .int .i64 s.mark, .int .i64 s.by_, .string ⟨s.reason.toArray⟩] 26)).heap.size := by simp
  generalize w.alloc (.cells #[.int .i64 s.kind, .int .i64 s.mark, .int .i64 s.by_, .string ⟨s.reason.toArray⟩] 26) = w1 at hB1 hbw1 hz1 ⊢
  have hwl : w.heap.size < w1.heap.size := by omega
  have x0 : w1.cell? ⟨w.heap.size, 0, none⟩ = some (.int .i64 s.kind) := hB1.cell 0
  have x1 : w1.cell? ⟨w.heap.size, 1, none⟩ = some (.int .i64 s.mark) := hB1.cell 1
  have x2 : w1.cell? ⟨w.heap.size, 2, none⟩ = some (.int .i64 s.by_) := hB1.cell 2
  have x3 : w1.cell? ⟨w.heap.size, 3, none⟩ = some (.string ⟨s.reason.toArray⟩) := hB1.cell 3
  have HBW := Lib.hid hbw1
  have HCN := Lib.hid (fun (W : World) (hb : Below w1.heap.size w1 W) (q j : Nat) (hq : q < n) (hj : j < 4) => show W.cell? ⟨b, off + q * 4 + j, none⟩ = some ((f q).cell j) from by
    obtain ⟨b1, o1, e1, _, hc⟩ := (Sl.below HS.out (HBW.out.trans (hb.mono HBW.out.size))) (by omega)
    obtain ⟨rfl, rfl⟩ : b = b1 ∧ off = o1 := by simpa using e1
    exact hc q j hq hj)
  clear hB1 hbw1
  go_cut [8] (fun v8 wx => ∃ b8 c8 : Nat, v8 = .slice (some ⟨b8, 0, none⟩) (n + 1) c8 ∧ Hid (wx.ownsRow w1.heap.size 26 4 (.slice (some ⟨b8, 0, none⟩) (n + 1) c8) (n + 1) (rowES (putE f n s) (n + 1))) ∧ Below w1.heap.size w1 wx)
  case first =>
    go_region_law (first
      | (refine step_append_rowG (by rfl) _ _ 24 (by rfl) w1.heap.size 26 q0 _ 4 40 Try.underlying24 hq0 hy0 hy1 hy2 (by rfl) (by decide) (.slice (some ⟨w1.heap.size, 0, none⟩) 0 0) 0 [] (by rfl) ?_ b off n c (fun q j => (f q).cell j) (by rfl) ?_ (fun q j => es_one f q j) (by omega) (by decide) ?_ ?_; go_must (focus first | exact ownsRow_blk0 (Blk.drew (blk_new1 _ (by simp))) (by omega) | exact ownsRow_blk0 (Blk.drew ((blk_new1 _ (by simp)).alloc _)) (by omega)); go_loud (focus exact fun q j hq hj => HCN.out _ (by repeat' (first | (with_reducible exact Below.refl _ _) | (with_reducible assumption) | (with_reducible refine Below.alloc ?_ ?_ _) | (with_reducible refine Below.drew ?_) | (with_reducible refine Below.setCell ?_ ?_ _) | (with_reducible refine Below.stepB (by assumption) ?_ ?_) | go_size)) q j (by omega) hj); go_loud (focus first | omega | (simp; omega) | (simp; done)); intro v5 w5 hO5 hb5 hk5; rw [Nat.zero_add, List.nil_append] at hO5; obtain ⟨A5, c5, rfl⟩ := ownsRow_form hO5; have hB45 : Below w1.heap.size w1 w5 := (by repeat' (first | (with_reducible exact Below.refl _ _) | (with_reducible assumption) | (with_reducible refine Below.alloc ?_ ?_ _) | (with_reducible refine Below.drew ?_) | (with_reducible refine Below.setCell ?_ ?_ _) | (with_reducible refine Below.stepB (by assumption) ?_ ?_) | go_size)); have r0 := (hB45.cell (p := ⟨w.heap.size, _, none⟩) hwl).trans x0; have r1 := (hB45.cell (p := ⟨w.heap.size, _, none⟩) hwl).trans x1; have r2 := (hB45.cell (p := ⟨w.heap.size, _, none⟩) hwl).trans x2; have r3 := (hB45.cell (p := ⟨w.heap.size, _, none⟩) hwl).trans x3; clear hB45; have hz5 := hb5.size; (try simp at hz5); (try (have hBf5 : Blk w5 (w1.heap.size + 1) 26 #[.int .i64 s.kind, .int .i64 s.mark, .int .i64 s.by_, .string ⟨s.reason.toArray⟩] := (hk5 _ (by first | (simp; done) | (simp; omega)) (by simp [Value.ownBlock])).trans (show Blk (((w1.alloc (.cells #[] 26)).alloc (.cells #[.int .i64 s.kind, .int .i64 s.mark, .int .i64 s.by_, .string ⟨s.reason.toArray⟩] 26))).drew (w1.heap.size + 1) 26 #[.int .i64 s.kind, .int .i64 s.mark, .int .i64 s.by_, .string ⟨s.reason.toArray⟩] from Blk.drew (blk_new1 (w1.alloc (.cells #[] 26)) (by simp))))); clear hk5)
      | (refine step_append_rowG (by rfl) _ _ 24 (by rfl) w1.heap.size 26 q0 _ 4 40 Try.underlying24 hq0 hy0 hy1 hy2 (by rfl) (by decide) (.slice (some ⟨w1.heap.size + 1, 0, none⟩) 0 0) 0 [] (by rfl) ?_ b off n c (fun q j => (f q).cell j) (by rfl) ?_ (fun q j => es_one f q j) (by omega) (by decide) ?_ ?_; go_must (focus first | exact ownsRow_blk0 (Blk.drew (blk_new1 _ (by simp))) (by omega) | exact ownsRow_blk0 (Blk.drew ((blk_new1 _ (by simp)).alloc _)) (by omega)); go_loud (focus exact fun q j hq hj => HCN.out _ (by repeat' (first | (with_reducible exact Below.refl _ _) | (with_reducible assumption) | (with_reducible refine Below.alloc ?_ ?_ _) | (with_reducible refine Below.drew ?_) | (with_reducible refine Below.setCell ?_ ?_ _) | (with_reducible refine Below.stepB (by assumption) ?_ ?_) | go_size)) q j (by omega) hj); go_loud (focus first | omega | (simp; omega) | (simp; done)); intro v5 w5 hO5 hb5 hk5; rw [Nat.zero_add, List.nil_append] at hO5; obtain ⟨A5, c5, rfl⟩ := ownsRow_form hO5; have hB45 : Below w1.heap.size w1 w5 := (by repeat' (first | (with_reducible exact Below.refl _ _) | (with_reducible assumption) | (with_reducible refine Below.alloc ?_ ?_ _) | (with_reducible refine Below.drew ?_) | (with_reducible refine Below.setCell ?_ ?_ _) | (with_reducible refine Below.stepB (by assumption) ?_ ?_) | go_size)); have r0 := (hB45.cell (p := ⟨w.heap.size, _, none⟩) hwl).trans x0; have r1 := (hB45.cell (p := ⟨w.heap.size, _, none⟩) hwl).trans x1; have r2 := (hB45.cell (p := ⟨w.heap.size, _, none⟩) hwl).trans x2; have r3 := (hB45.cell (p := ⟨w.heap.size, _, none⟩) hwl).trans x3; clear hB45; have hz5 := hb5.size; (try simp at hz5); (try (have hBf5 : Blk w5 w1.heap.size 26 #[.int .i64 s.kind, .int .i64 s.mark, .int .i64 s.by_, .string ⟨s.reason.toArray⟩] := (hk5 _ (by first | (simp; done) | (simp; omega)) (by simp [Value.ownBlock])).trans (show Blk (((w1.alloc (.cells #[.int .i64 s.kind, .int .i64 s.mark, .int .i64 s.by_, .string ⟨s.reason.toArray⟩] 26)).alloc (.cells #[] 26))).drew w1.heap.size 26 #[.int .i64 s.kind, .int .i64 s.mark, .int .i64 s.by_, .string ⟨s.reason.toArray⟩] from Blk.drew ((blk_new1 w1 rfl).alloc _)))); clear hk5)
      | (refine step_append_rowG (by rfl) _ _ 24 (by rfl) w1.heap.size 26 q0 _ 4 40 Try.underlying24 hq0 hy0 hy1 hy2 (by rfl) (by decide) _ n (rowES f n) (by rfl) ?_ _ 0 1 1 (fun _ j => s.cell j) (by rfl) ?_ (fun _ j => es_one (fun _ => s) 0 j) (by omega) (by decide) ?_ ?_; go_loud (focus first | exact hO5 | exact ownsRow_below hO5 (Below.alloc (Below.refl _ _) (Nat.le_refl _) _)); go_loud (focus first | exact es_box hBf5 | exact es_box (blk_new1 w5 rfl)); go_loud (focus first | omega | (simp; omega) | (simp; done)); intro v6 w6 hO6 hb6 hk6; clear hk6; obtain ⟨A6, c6, rfl⟩ := ownsRow_form hO6; obtain ⟨B6, c6', e6⟩ := ownsRow_pos hO6 (Nat.succ_pos _); rw [e6] at hO6 ⊢; clear e6; have hz6 := hb6.size; (try simp at hz6)))
    all_goals
      rw [rowES_snoc] at hO6
      have HO6 := Lib.hid hO6
      clear hO6
      go_wp2_with fail
      go_meet
      exact ⟨B6, c6', rfl, HO6.out, by repeat' (first | (with_reducible exact Below.refl _ _) | (with_reducible assumption) | (with_reducible refine Below.alloc ?_ ?_ _) | (with_reducible refine Below.drew ?_) | (with_reducible refine Below.setCell ?_ ?_ _) | (with_reducible refine Below.stepB (by assumption) ?_ ?_) | go_size)⟩
  obtain ⟨b8, c8, rfl, hO8, hbc⟩ := hcut
  have HOC := Lib.hid (own_steps hO8.out)
  have HBC := Lib.hid (HBW.out.trans (hbc.mono HBW.out.size))
  have hgd := fun W (hb : Below wc.heap.size wc W) => l14Good_any marks b8 0 (n + 1) c8 (putE f n s) W (HOC.out.sl.below hb) (ownsRow_cap hO8.out) (by omega)
  clear x0 x1 x2 x3 hO8 hbc HCN
  rcases Bool.eq_false_or_eq_true (goodEd marks (putE f n s) (n + 1)) with hg | hg <;> rw [hg] at hgd <;> have HGD := Lib.hid hgd <;> have HG2 := Lib.hid hg <;> clear hgd hg
  · go_wp2_with fail
    refine (HGD.out _ (Below.refl _ _)).mono ?_
    rintro e w2 ⟨rfl, hbw2⟩
    have HO2 := Lib.hid (HOC.out.below hbw2)
    have HB2 := Lib.hid (HBC.out.trans (hbw2.mono HBC.out.size))
    go_wp2
    go_ret2
    exact SOut.row (HO2.out.more (by omega)) (cntN_t HG2.out) HG2.out HB2.out
  · go_wp2_with fail
    refine (HGD.out _ (Below.refl _ _)).mono ?_
    rintro e w2 ⟨rfl, hbw2⟩
    have HB2 := Lib.hid (HBC.out.trans (hbw2.mono HBC.out.size))
    have hz2 := HB2.out.size
    go_wp2
    go_ret2
    refine SOut.nil (cntN_f HG2.out) HG2.out ?_
    have := HB2.out
    repeat' (first | (with_reducible exact Below.refl _ _) | (with_reducible assumption) | (with_reducible refine Below.alloc ?_ ?_ _) | (with_reducible refine Below.drew ?_) | (with_reducible refine Below.setCell ?_ ?_ _) | (with_reducible refine Below.stepB (by assumption) ?_ ?_) | go_size)
set_option maxRecDepth 100000 in
set_option maxHeartbeats 2000000 in
theorem CleanSteps_any (marks : Int) (A : Option Addr) (n c : Nat) (f : Nat → ES) (w : World) (hS : SlES w A n f) (hn : n ≤ 1000) : Calls Try.prog 15 #[.int .i64 marks, .slice A n c] w
    fun e w' => SOut w (cntN (goodEd marks f n) (liveN f n).length) (clnF f (liveN f n)) (goodEd marks f n) e w' := by
  have HE := Lib.hid (fun W (hb : Below w.heap.size w W) => edited_any marks A n c f W (hS.below hb) hn)
  have HS := Lib.hid hS
  clear hS
  go_enter Try.func15, Try.ntmps15
  go_wp2_with fail
  refine (HE.out _ (by repeat' (first | (with_reducible exact Below.refl _ _) | (with_reducible assumption) | (with_reducible refine Below.alloc ?_ ?_ _) | (with_reducible refine Below.drew ?_) | (with_reducible refine Below.setCell ?_ ?_ _) | (with_reducible refine Below.stepB (by assumption) ?_ ?_) | go_size))).mono ?_
  clear HE
  rintro e w1 (⟨hg, rfl, hb1⟩ | ⟨hg, M, q, R, S, V, m, cV, rfl, rfl, hst, hb1⟩)
  · have HG := Lib.hid hg
    clear hg
    go_wp2
    go_ret2
    exact SOut.nil (cntN_f HG.out) HG.out (by repeat' (first | (with_reducible exact Below.refl _ _) | (with_reducible assumption) | (with_reducible refine Below.alloc ?_ ?_ _) | (with_reducible refine Below.drew ?_) | (with_reducible refine Below.setCell ?_ ?_ _) | (with_reducible refine Below.stepB (by assumption) ?_ ?_) | go_size))
  · have HG := Lib.hid hg
    have hql := hst.blk.lt
    have x2 : w1.cell? ⟨q, 2, none⟩ = some (.slice (some ⟨V, 0, none⟩) m cV) := hst.blk.cell 2
    have HV := Lib.hid (own_nat hst.len hst.liv)
    have HM := Lib.hid hst.len
    have hn20 := (goodEd_bd hg).2.1
    have hmn : m ≤ n := by have := hst.len; have := liveN_len f n; omega
    have HJ : Hid (∀ i, i < m → (liveN f n).getD i 0 < n) := fun i hi => (liveN_mem (cln_get (by rw [← hst.len]; exact hi))).1
    obtain ⟨q0, hq0, hy0, hy1, hy2⟩ := info_parts es_info
    have hO0 := Lib.hid (ownsRow_empty w1 26 4)
    clear hg hst
    obtain ⟨L, hL⟩ : ∃ L, L = liveN f n := ⟨_, rfl⟩
    rw [← hL] at HV HM HJ
    have HLE := Lib.hid hL
    clear hL
    go_wp2
    go_loopw [8, 25] (fun v8 v25 wr => ∃ i b3 c3 : Nat, i ≤ m ∧ v25 = .int .i64 i ∧ v8 = .slice (some ⟨b3, 0, none⟩) i c3 ∧ Hid (wr.ownsRow w1.heap.size 26 4 (.slice (some ⟨b3, 0, none⟩) i c3) i (rowES (clnF f L) i)) ∧ Below w1.heap.size w1 wr) (fun _ v25 _ => m - (intOf v25).toNat)
    case atStart => exact ⟨0, _, _, Nat.zero_le _, rfl, rfl, hO0.out, by repeat' (first | (with_reducible exact Below.refl _ _) | (with_reducible assumption) | (with_reducible refine Below.alloc ?_ ?_ _) | (with_reducible refine Below.drew ?_) | (with_reducible refine Below.setCell ?_ ?_ _) | (with_reducible refine Below.stepB (by assumption) ?_ ?_) | go_size)⟩
    case round =>
      clear hO0
      obtain ⟨i, b3, c3, hi, rfl, rfl, hO, hbr⟩ := hrel
      have hzr := hbr.size
      have hz1 := hb1.size
      by_cases hlt : i < m
      · obtain ⟨hb5, hb6, d0⟩ := OwnI.at HV.out hbr hlt
        have hj : natV L i = ((L.getD i 0 : Nat) : Int) := rfl
        rw [hj] at d0
        have hjn := HJ.out i hlt
        have HX := Lib.hid (rowES_snoc (clnF f L) i (clnF f L i))
        rw [putE_self] at HX
        rw [show clnF f L i = f (L.getD i 0) from rfl] at HX
        generalize L.getD i 0 = j5 at d0 hjn HX
        clear hj
        obtain ⟨b, off, rfl, hbl, hbl2, y0, y1, y2, y3⟩ := HS.out.at (hb1.trans (hbr.mono hz1)) hjn
        go_wp2_with (at_builtin; refine wpList_append_rowS _ rfl _ _ 24 rfl w1.heap.size 26 q0 _ 4 40 Try.underlying24 hq0 hy0 hy1 hy2 rfl (by decide) (.slice (some ⟨b3, 0, none⟩) i c3) i (rowES (clnF f L) i) rfl ((ownsRow_below hO.out (show Below wr.heap.size wr _ from by repeat' (first | (with_reducible exact Below.refl _ _) | (with_reducible assumption) | (with_reducible refine Below.alloc ?_ ?_ _) | (with_reducible refine Below.drew ?_) | (with_reducible refine Below.setCell ?_ ?_ _) | (with_reducible refine Below.stepB (by assumption) ?_ ?_) | go_size)))) (by simp) _ 0 1 1 (fun _ j => (f j5).cell j) rfl ?_ (fun _ j => es_one (fun _ => f j5) 0 j) (by omega) (by decide) ?_ ?_; go_must (focus exact es_box (blk_new1 _ rfl)); go_must (focus (first | omega | (simp; omega) | (simp; done))); intro b9 c9 w9 hO9 hc9 hb9 hbw9; have hz9 := hbw9.size; (try simp at hz9))
        go_roundw
        case rel => exact ⟨i + 1, b9, c9, by omega, by go_num, rfl, by show World.ownsRow _ _ _ _ _ _ _; rw [← HX.out]; exact hO9, by repeat' (first | (with_reducible exact Below.refl _ _) | (with_reducible assumption) | (with_reducible refine Below.alloc ?_ ?_ _) | (with_reducible refine Below.drew ?_) | (with_reducible refine Below.setCell ?_ ?_ _) | (with_reducible refine Below.stepB (by assumption) ?_ ?_) | go_size)⟩
        case measure => simp [intOf]; omega
      · obtain rfl : i = m := by omega
        go_wp2
        go_ret2
        have h1 := hO.out
        have h2 := HM.out
        rw [HLE.out] at h1 h2
        exact SOut.row (Own.more (own_steps h1) hz1) (by rw [cntN_t HG.out]; exact h2.symm) HG.out (by repeat' (first | (with_reducible exact Below.refl _ _) | (with_reducible assumption) | (with_reducible refine Below.alloc ?_ ?_ _) | (with_reducible refine Below.drew ?_) | (with_reducible refine Below.setCell ?_ ?_ _) | (with_reducible refine Below.stepB (by assumption) ?_ ?_) | go_size))
set_option maxRecDepth 100000 in
set_option maxHeartbeats 2000000 in
theorem specClean_any (marks : Int) (b off n c : Nat) (f : Nat → ES) (w : World) (hS : SlES w (some ⟨b, off, none⟩) n f) (hnc : n ≤ c) (hn : n ≤ 1000) : Calls Try.prog 16 #[.int .i64 marks, .slice (some ⟨b, off, none⟩) n c] w
    fun e w' => SOut w (cntN (goodEd marks f n) (liveN f n).length) (clnF f (liveN f n)) (goodEd marks f n) e w' := by
  have hgd := fun W (hb : Below w.heap.size w W) => l14Good_any marks b off n c f W (hS.below hb) hnc hn
  have HS := Lib.hid hS
  rcases Bool.eq_false_or_eq_true (goodEd marks f n) with hg | hg <;> rw [hg] at hgd <;> have HGD := Lib.hid hgd <;> have HG := Lib.hid hg <;> clear hS hgd
  rotate_left
  · clear hg
    go_enter Try.func16, Try.ntmps16
    go_wp2_with (go_at_call 36; refine (HGD.out _ (by repeat' (first | (with_reducible exact Below.refl _ _) | (with_reducible assumption) | (with_reducible refine Below.alloc ?_ ?_ _) | (with_reducible refine Below.drew ?_) | (with_reducible refine Below.setCell ?_ ?_ _) | (with_reducible refine Below.stepB (by assumption) ?_ ?_) | go_size))).mono ?_; rintro e w1 ⟨rfl, hbw1⟩; obtain ⟨hzw1, hcw1, hfw1⟩ := bfacts hbw1; (try simp at hzw1 hcw1 hfw1); (try (have : w.heap.size < w1.heap.size := by omega)); (try (have : w.heap.size + 1 < w1.heap.size := by omega)); (try (have : w.heap.size + 1 + 1 < w1.heap.size := by omega)); (try (have : w.heap.size + 1 + 1 + 1 < w1.heap.size := by omega)))
    go_ret2
    exact SOut.nil (cntN_f HG.out) HG.out (by repeat' (first | (with_reducible exact Below.refl _ _) | (with_reducible assumption) | (with_reducible refine Below.alloc ?_ ?_ _) | (with_reducible refine Below.drew ?_) | (with_reducible refine Below.setCell ?_ ?_ _) | (with_reducible refine Below.stepB (by assumption) ?_ ?_) | go_size))
  have hn20 := (goodEd_bd hg).2.1
  have HL := Lib.hid (fun W (hb : Below w.heap.size w W) => l14Live_any (some ⟨b, off, none⟩) n c f W (HS.out.below hb) hn)
  have HJ : Hid (∀ i, i < (liveN f n).length → (liveN f n).getD i 0 < n) := fun i hi => (liveN_mem (cln_get hi)).1
  have hmn := liveN_len f n
  obtain ⟨q0, hq0, hy0, hy1, hy2⟩ := info_parts es_info
  have hO0 := Lib.hid (ownsRow_empty w 26 4)
  clear hg
  obtain ⟨L, hL⟩ : ∃ L, L = liveN f n := ⟨_, rfl⟩
  rw [← hL] at HL HJ hmn ⊢
  clear hL
  obtain ⟨m, hm⟩ : ∃ m, m = L.length := ⟨_, rfl⟩
  have HM := Lib.hid hm
  rw [← hm] at HJ hmn
  clear hm
  go_enter Try.func16, Try.ntmps16
  go_wp2_with (go_at_call 36; refine (HGD.out _ (by repeat' (first | (with_reducible exact Below.refl _ _) | (with_reducible assumption) | (with_reducible refine Below.alloc ?_ ?_ _) | (with_reducible refine Below.drew ?_) | (with_reducible refine Below.setCell ?_ ?_ _) | (with_reducible refine Below.stepB (by assumption) ?_ ?_) | go_size))).mono ?_; rintro e w1 ⟨rfl, hbw1⟩; obtain ⟨hzw1, hcw1, hfw1⟩ := bfacts hbw1; (try simp at hzw1 hcw1 hfw1); (try (have : w.heap.size < w1.heap.size := by omega)); (try (have : w.heap.size + 1 < w1.heap.size := by omega)); (try (have : w.heap.size + 1 + 1 < w1.heap.size := by omega)); (try (have : w.heap.size + 1 + 1 + 1 < w1.heap.size := by omega)))
  refine (HL.out _ (by repeat' (first | (with_reducible exact Below.refl _ _) | (with_reducible assumption) | (with_reducible refine Below.alloc ?_ ?_ _) | (with_reducible refine Below.drew ?_) | (with_reducible refine Below.setCell ?_ ?_ _) | (with_reducible refine Below.stepB (by assumption) ?_ ?_) | go_size))).mono ?_
  rintro e w2 ⟨b2, c2, rfl, hO2, hc2, hb2⟩
  have HO2 : Hid (w2.ownsRow w.heap.size 3 1 (.slice (some ⟨b2, 0, none⟩) m c2) m (natX L)) := by
    show World.ownsRow _ _ _ _ _ _ _
    rw [HM.out]
    exact ownsRow_low hO2 (by omega)
  rw [← HM.out] at hc2 ⊢
  have HB2 := Lib.hid (show Below w.heap.size w w2 from by repeat' (first | (with_reducible exact Below.refl _ _) | (with_reducible assumption) | (with_reducible refine Below.alloc ?_ ?_ _) | (with_reducible refine Below.drew ?_) | (with_reducible refine Below.setCell ?_ ?_ _) | (with_reducible refine Below.stepB (by assumption) ?_ ?_) | go_size))
  have HO0 := Lib.hid (ownsRow_below (ownsRow_below hO0.out (show Below (w.alloc _).heap.size (w.alloc _) w1 from by repeat' (first | (with_reducible exact Below.refl _ _) | (with_reducible assumption) | (with_reducible refine Below.alloc ?_ ?_ _) | (with_reducible refine Below.drew ?_) | (with_reducible refine Below.setCell ?_ ?_ _) | (with_reducible refine Below.stepB (by assumption) ?_ ?_) | go_size))) hb2)
  have hz2 := HB2.out.size
  clear hO0 hO2 hb2 HGD HL hbw1
  go_wp2
  go_loopw [6, 8] (fun v6 v8 wr => ∃ i b3 c3 : Nat, i ≤ m ∧ v8 = .int .i64 i ∧ v6 = .slice (some ⟨b3, 0, none⟩) i c3 ∧ Hid (wr.ownsRow w.heap.size 26 4 (.slice (some ⟨b3, 0, none⟩) i c3) i (rowES (clnF f L) i)) ∧ Below w.heap.size w wr ∧ Hid (wr.ownsRow w.heap.size 3 1 (.slice (some ⟨b2, 0, none⟩) m c2) m (natX L))) (fun _ v8 _ => m - (intOf v8).toNat)
  case atStart => exact ⟨0, _, _, Nat.zero_le _, rfl, rfl, HO0.out, HB2.out, HO2.out⟩
  case round =>
    clear HO0
    obtain ⟨i, b3, c3, hi, rfl, rfl, hO, hbr, hLv⟩ := hrel
    have hzr := hbr.size
    by_cases hlt : i < m
    · obtain ⟨hb5, hb6, d0⟩ := OwnI.at (own_nat HM.out hLv.out) (Below.refl _ _) hlt
      have hj : natV L i = ((L.getD i 0 : Nat) : Int) := rfl
      rw [hj] at d0
      have hjn := HJ.out i hlt
      have HX := Lib.hid (rowES_snoc (clnF f L) i (clnF f L i))
      rw [putE_self] at HX
      rw [show clnF f L i = f (L.getD i 0) from rfl] at HX
      generalize L.getD i 0 = j5 at d0 hjn HX
      clear hj
      obtain ⟨b', off', e5, hbl, hbl2, y0, y1, y2, y3⟩ := HS.out.at hbr hjn
      obtain ⟨rfl, rfl⟩ : b = b' ∧ off = off' := by simpa using e5
      clear e5
      go_wp2_with (at_builtin; refine wpList_append_rowK _ rfl _ _ 24 rfl w.heap.size 26 q0 _ 4 40 Try.underlying24 hq0 hy0 hy1 hy2 rfl (by decide) (.slice (some ⟨b3, 0, none⟩) i c3) i (rowES (clnF f L) i) rfl (ownsRow_below hO.out (show Below wr.heap.size wr _ from by repeat' (first | (with_reducible exact Below.refl _ _) | (with_reducible assumption) | (with_reducible refine Below.alloc ?_ ?_ _) | (with_reducible refine Below.drew ?_) | (with_reducible refine Below.setCell ?_ ?_ _) | (with_reducible refine Below.stepB (by assumption) ?_ ?_) | go_size))) (by simp) _ 0 1 1 (fun _ j => (f j5).cell j) rfl ?_ (fun _ j => es_one (fun _ => f j5) 0 j) (by omega) (by decide) ?_ ?_; go_must (focus exact es_box (blk_new1 _ rfl)); go_must (focus (first | omega | (simp; omega) | (simp; done))); intro b9 c9 w9 hO9 hc9 hb9 hbw9 hk9; have hz9 := hbw9.size; (try simp at hz9); have HK9 := Lib.hid (ownsRow_keep (ownsRow_below hLv.out (show Below wr.heap.size wr _ from by repeat' (first | (with_reducible exact Below.refl _ _) | (with_reducible assumption) | (with_reducible refine Below.alloc ?_ ?_ _) | (with_reducible refine Below.drew ?_) | (with_reducible refine Below.setCell ?_ ?_ _) | (with_reducible refine Below.stepB (by assumption) ?_ ?_) | go_size))) (ownsRow_below hO.out (show Below wr.heap.size wr _ from by repeat' (first | (with_reducible exact Below.refl _ _) | (with_reducible assumption) | (with_reducible refine Below.alloc ?_ ?_ _) | (with_reducible refine Below.drew ?_) | (with_reducible refine Below.setCell ?_ ?_ _) | (with_reducible refine Below.stepB (by assumption) ?_ ?_) | go_size))) (by decide) hk9); clear hk9)
      go_roundw
      case rel => exact ⟨i + 1, b9, c9, by omega, by go_num, rfl, by show World.ownsRow _ _ _ _ _ _ _; rw [← HX.out]; exact hO9, by repeat' (first | (with_reducible exact Below.refl _ _) | (with_reducible assumption) | (with_reducible refine Below.alloc ?_ ?_ _) | (with_reducible refine Below.drew ?_) | (with_reducible refine Below.setCell ?_ ?_ _) | (with_reducible refine Below.stepB (by assumption) ?_ ?_) | go_size), HK9.out⟩
      case measure => simp [intOf]; omega
    · obtain rfl : i = m := by omega
      go_wp2
      go_ret2
      exact SOut.row (own_steps hO.out) (by rw [cntN_t HG.out]; exact HM.out.symm) HG.out (by repeat' (first | (with_reducible exact Below.refl _ _) | (with_reducible assumption) | (with_reducible refine Below.alloc ?_ ?_ _) | (with_reducible refine Below.drew ?_) | (with_reducible refine Below.setCell ?_ ?_ _) | (with_reducible refine Below.stepB (by assumption) ?_ ?_) | go_size))
end Go.Proofs.Ytbgpmbaonjehbaa
