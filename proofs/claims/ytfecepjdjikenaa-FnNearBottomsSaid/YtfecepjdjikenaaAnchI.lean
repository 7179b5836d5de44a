/- Contracts: the places to anchor: the program's and the reference's. -/
import Derived.Test.YtfecepjdjikenaaAnch
import Derived.Test.YtfecepjdjikenaaAnchP
import Derived.Test.YtfecepjdjikenaaStepG
import Derived.Test.YtfecepjdjikenaaHold
import Derived.Test.YtfecepjdjikenaaMean
import Derived.Test.YtfecepjdjikenaaCmp
import Derived.Test.YtfecepjdjikenaaOuts
namespace Go.Proofs.Ytfecepjdjikenaa
open Go.RowKit
theorem bs_info : (Try.prog.info? 29).map (fun i => (i.zero, i.size, i.bytes)) = some (some (.agg #[.int .i64 0, .int .i64 0, .int .i64 0, .int .i64 0, .int .i64 0, .int .i64 0]), 6, 48) := by kernel_rfl
theorem intA_info : (Try.prog.info? 3).map (fun i => (i.zero, i.size, i.bytes)) = some (some (.int .i64 0), 1, 8) := by kernel_rfl
theorem bs_one (f : Nat → BS) (i j : Nat) : ((f i).cell j).oneCell' = true := by
  unfold BS.cell
  split <;> rfl
theorem anchFn_any (s : BS) (least : Int) (B : Nat) (w : World) (hB : B < w.heap.size) (hc : w.cell? ⟨B, 0, none⟩ = some (.int .i64 least)) (h : okS s = true) :
    Calls Try.prog 78 #[.agg #[.int .i64 s.id, .int .i64 s.x, .int .i64 s.y, .int .i64 s.mud, .int .i64 s.sand, .int .i64 s.rock], .pointer (some ⟨B, 0, none⟩)] w fun e w' => e = .returned (.bool (decide (holdV s < least))) ∧ Below w.heap.size w w' := by
  have HH := Lib.hid (fun W => holdingOf_any s W h)
  clear h
  go_enter Try.func78, Try.ntmps78
  go_wp2
  refine wp_region_later (by kernel_rfl) (by kernel_rfl) (fun hlx => ?_)
  repeat (go_big_quiet_step ((go_at_call 66; exact Later.call (HH.out _))))
  refine wpQuiet_nil ?_
  clear hlx
  intro w1 hbw1
  obtain ⟨hzw1, hcw1, hfw1⟩ := bfacts hbw1; (try simp at hzw1 hcw1 hfw1); (try (have : w.heap.size < w1.heap.size := by omega)); (try (have : w.heap.size + 1 < w1.heap.size := by omega)); (try (have : w.heap.size + 1 + 1 < w1.heap.size := by omega)); (try (have : w.heap.size + 1 + 1 + 1 < w1.heap.size := by omega))
  go_wp2
  go_ret
  exact ⟨rfl, by repeat' (first | (with_reducible exact Below.refl _ _) | (with_reducible assumption) | (with_reducible refine Below.alloc ?_ ?_ _) | (with_reducible refine Below.drew ?_) | (with_reducible refine Below.setCell ?_ ?_ _) | (with_reducible refine Below.stepB (by assumption) ?_ ?_) | go_size)⟩
theorem enters_anchFn : ∀ args w, (callFunc 78 args).run Try.prog w = .ok (.enter 78 args) w := enters_of Try.func78 (by kernel_rfl) rfl
theorem anchCmp_any (x y : BS) (w : World) (hx : okS x = true) (hy : okS y = true) :
    Calls Try.prog 80 #[.agg #[.int .i64 x.id, .int .i64 x.x, .int .i64 x.y, .int .i64 x.mud, .int .i64 x.sand, .int .i64 x.rock], .agg #[.int .i64 y.id, .int .i64 y.x, .int .i64 y.y, .int .i64 y.mud, .int .i64 y.sand, .int .i64 y.rock]] w fun e w' => e = .returned (.int .i64 (cmpV (holdV y) (holdV x))) ∧ Below w.heap.size w w' := by
  have HX := Lib.hid (fun W => holdingOf_any x W hx)
  have HY := Lib.hid (fun W => holdingOf_any y W hy)
  clear hx hy
  go_enter Try.func80, Try.ntmps80
  go_wp2
  refine wp_region_later (by kernel_rfl) (by kernel_rfl) (fun hlx => ?_)
  repeat (go_big_quiet_step ((first | (go_at_call 66; with_reducible exact Later.call (HX.out _)) | (go_at_call 66; with_reducible exact Later.call (HY.out _)) | (go_at_call 81; exact Later.same (cmpInt_any _ _ _)))))
  refine wpQuiet_nil ?_
  clear hlx
  intro w1 hbw1
  obtain ⟨hzw1, hcw1, hfw1⟩ := bfacts hbw1; (try simp at hzw1 hcw1 hfw1); (try (have : w.heap.size < w1.heap.size := by omega)); (try (have : w.heap.size + 1 < w1.heap.size := by omega)); (try (have : w.heap.size + 1 + 1 < w1.heap.size := by omega)); (try (have : w.heap.size + 1 + 1 + 1 < w1.heap.size := by omega))
  go_wp2
  go_ret
  exact ⟨rfl, by repeat' (first | (with_reducible exact Below.refl _ _) | (with_reducible assumption) | (with_reducible refine Below.alloc ?_ ?_ _) | (with_reducible refine Below.drew ?_) | (with_reducible refine Below.setCell ?_ ?_ _) | (with_reducible refine Below.stepB (by assumption) ?_ ?_) | go_size)⟩
theorem enters_anchCmp : ∀ args w, (callFunc 80 args).run Try.prog w = .ok (.enter 80 args) w := enters_of Try.func80 (by kernel_rfl) rfl
/-- a slice's elements appended to a row of the call's own: a row that is there stays there -/
theorem wpList_append_rowS {P : Program} (w : World) {ops : Array Oper} {rest : List Oper} {o : Oper} {a : Act} {Q : Exit → Act → World → Prop} (hgd : o.guard = none) (s x : Operand) (t : TypeId)
    (ho : o.op = .call { callee := .builtin .append, args := #[s, x], argTypes := #[t, t] })
    (base : Nat) (e : TypeId) (i : TypeInfo) (z : Value) (k bytes : Nat) (ht : P.underlying t = some (.slice e)) (hi : P.info? e = some i) (hz : i.zero = some z) (hsize : i.size = k) (hby : i.bytes = bytes)
    (hzs : z.cells.size = k) (hk : 0 < k)
    (v : Value) (n : Nat) (xs : List Value) (hs : a.eval s = v) (hown : w.ownsRow base e k v n xs) (hv : v ≠ .slice none 0 0)
    (b off m c : Nat) (g : Nat → Nat → Value) (hx : a.eval x = .slice (some ⟨b, off, none⟩) m c) (hcell : ∀ i j, i < m → j < k → w.cell? ⟨b, off + i * k + j, none⟩ = some (g i j))
    (h1 : ∀ i j, (g i j).oneCell' = true) (hn : n + m ≤ 1048576) (hbs : bytes ≤ 1000) (hbase : base ≤ w.heap.size)
    (h : ∀ b' c' w', w'.ownsRow base e k (.slice (some ⟨b', 0, none⟩) (n + m) c') (n + m) (xs ++ flatG k g m) → n + m ≤ c' → base ≤ b' → Below base w w' → wpList P ops Q rest (a.put o.dst (.slice (some ⟨b', 0, none⟩) (n + m) c')) w') : wpList P ops Q (o :: rest) a w := by
  refine wpList_append_own w hgd s x t ho base e i z k bytes ht hi hz hsize hby hzs hk v n xs hs hown ⟨b, off, none⟩ m c (flatG k g m) hx (flatG_len k g m) ?_ ?_ (by unfold maxLen; omega) ?_ hbase ?_
  · intro q u hu
    obtain ⟨h2, h3, rfl⟩ := flatG_at hk hu
    have h4 := hcell _ _ h2 h3
    rw [Nat.add_assoc, Nat.mul_comm (q / k) k, Nat.div_add_mod] at h4
    rw [Addr.add_lit]
    exact h4
  · intro u hu
    obtain ⟨i, j, rfl⟩ := flatG_mem hu
    exact h1 i j
  · exact Nat.le_trans (Nat.mul_le_mul hn hbs) (by decide)
  · intro v' w' h1 h2 h3
    have hb : Below base w w' := (Below.refl base w).grown h2 hbase (by
      intro k hk
      rcases hown.2 with ⟨rfl, _⟩ | ⟨g, cap, cur, rfl, hg, _⟩
      · simp [Value.ownBlock] at hk
      · simp [Value.ownBlock] at hk
        omega)
    rcases h1.2 with ⟨rfl, _⟩ | ⟨g', cap, cur, rfl, hg, hh, hnc, _⟩
    · exact absurd (h3.1 rfl).1 hv
    · exact h g' cap w' h1 hnc hg hb
def anchOk (f : Nat → BS) (least : Int) (n : Nat) : Bool := (goodUpto f n && decide (n ≤ 12)) && inB least 0 100
/-- those that hold enough, the best first -/
def anchS (f : Nat → BS) (least : Int) (n : Nat) : List BS := srtL (ltH holdV) noB (keepL (fun s => decide (holdV s < least)) f n)
def anchL (f : Nat → BS) (least : Int) (n : Nat) : List Int := if anchOk f least n = true then (anchS f least n).map BS.id else []
theorem anchS_len (f : Nat → BS) (least : Int) (n : Nat) : (anchS f least n).length ≤ n := by
  unfold anchS
  rw [srtL_len]
  exact keepL_len _ f n
theorem anchL_len (f : Nat → BS) (least : Int) (n : Nat) (hn : n ≤ 1048576) : (anchL f least n).length ≤ 1048576 := by
  unfold anchL
  split
  · rw [List.length_map]
    exact Nat.le_trans (anchS_len f least n) hn
  · simp
theorem hold_bd {s : BS} (h : okS s = true) : 0 ≤ holdV s ∧ holdV s ≤ 100 := by
  obtain ⟨⟨_, _, ⟨m1, m2⟩, ⟨s1, s2⟩, ⟨r1, r2⟩⟩, hs⟩ := okS_bd h
  unfold holdV
  omega
theorem ltC_hold : ltCBS (fun x y => cmpV (holdV y) (holdV x)) = ltH holdV := by
  funext x y
  unfold ltCBS ltH
  rw [Bool.eq_iff_iff, decide_eq_true_eq, decide_eq_true_eq]
  exact cmpV_lt
theorem AnchorPlaces_no (A : Option Addr) (n c : Nat) (f : Nat → BS) (least : Int) (w : World) (hS : SlS w A n f) (hn : n ≤ 1048576) (h : anchOk f least n = false) :
    Calls Try.prog 35 #[.slice A n c, .int .i64 least] w fun e w' => IntsOut w [] false e w' := by
  have hA := fun W (hb : Below w.heap.size w W) => AreSamples_any A n c f W (hS.below hb) hn
  unfold anchOk at h
  generalize (goodUpto f n && decide (n ≤ 12)) = r at h hA
  have HA := Lib.hid hA
  clear hA hS
  rcases Bool.eq_false_or_eq_true (inB least 0 100) with hf | hf <;> cases r
  all_goals first | (exfalso; rw [hf] at h; exact absurd h (by decide)) | skip
  all_goals
    clear h
    go_enter Try.func35, Try.ntmps35
    go_wp2_with fail
    refine (HA.out _ (by repeat' (first | (with_reducible exact Below.refl _ _) | (with_reducible assumption) | (with_reducible refine Below.alloc ?_ ?_ _) | (with_reducible refine Below.drew ?_) | (with_reducible refine Below.setCell ?_ ?_ _) | (with_reducible refine Below.stepB (by assumption) ?_ ?_) | go_size))).mono ?_
    rintro e w1 ⟨rfl, hbw1⟩
    obtain ⟨hzw1, hcw1, hfw1⟩ := bfacts hbw1; (try simp at hzw1 hcw1 hfw1); (try (have : w.heap.size < w1.heap.size := by omega)); (try (have : w.heap.size + 1 < w1.heap.size := by omega)); (try (have : w.heap.size + 1 + 1 < w1.heap.size := by omega)); (try (have : w.heap.size + 1 + 1 + 1 < w1.heap.size := by omega))
    go_wp2_with (go_at_call 63; refine (inside_any _ _ _ _).mono ?_; rintro e w' ⟨rfl, rfl⟩)
    go_ret2
    exact IntsOut.none rfl rfl (by repeat' (first | (with_reducible exact Below.refl _ _) | (with_reducible assumption) | (with_reducible refine Below.alloc ?_ ?_ _) | (with_reducible refine Below.drew ?_) | (with_reducible refine Below.setCell ?_ ?_ _) | (with_reducible refine Below.stepB (by assumption) ?_ ?_) | go_size))
theorem specAnchor_no (A : Option Addr) (n c : Nat) (f : Nat → BS) (least : Int) (w : World) (hS : SlS w A n f) (hn : n ≤ 1048576) (h : anchOk f least n = false) :
    Calls Try.prog 34 #[.slice A n c, .int .i64 least] w fun e w' => IntsOut w [] false e w' := by
  have hA := fun W (hb : Below w.heap.size w W) => l18Good_any A n c f W (hS.below hb) hn
  unfold anchOk at h
  generalize (goodUpto f n && decide (n ≤ 12)) = r at h hA
  have HA := Lib.hid hA
  clear hA hS
  rcases Bool.eq_false_or_eq_true (inB least 0 100) with hf | hf <;> cases r
  all_goals first | (exfalso; rw [hf] at h; exact absurd h (by decide)) | skip
  all_goals
    clear h
    go_enter Try.func34, Try.ntmps34
    go_wp2_with fail
    refine (HA.out _ (by repeat' (first | (with_reducible exact Below.refl _ _) | (with_reducible assumption) | (with_reducible refine Below.alloc ?_ ?_ _) | (with_reducible refine Below.drew ?_) | (with_reducible refine Below.setCell ?_ ?_ _) | (with_reducible refine Below.stepB (by assumption) ?_ ?_) | go_size))).mono ?_
    rintro e w1 ⟨rfl, hbw1⟩
    obtain ⟨hzw1, hcw1, hfw1⟩ := bfacts hbw1; (try simp at hzw1 hcw1 hfw1); (try (have : w.heap.size < w1.heap.size := by omega)); (try (have : w.heap.size + 1 < w1.heap.size := by omega)); (try (have : w.heap.size + 1 + 1 < w1.heap.size := by omega)); (try (have : w.heap.size + 1 + 1 + 1 < w1.heap.size := by omega))
    go_wp2_with (go_at_call 67; refine (l18Share_any _ _).mono ?_; rintro e w' ⟨rfl, rfl⟩)
    go_ret2
    exact IntsOut.none rfl rfl (by repeat' (first | (with_reducible exact Below.refl _ _) | (with_reducible assumption) | (with_reducible refine Below.alloc ?_ ?_ _) | (with_reducible refine Below.drew ?_) | (with_reducible refine Below.setCell ?_ ?_ _) | (with_reducible refine Below.stepB (by assumption) ?_ ?_) | go_size))
set_option maxRecDepth 100000 in
set_option maxHeartbeats 2000000 in
theorem AnchorPlaces_yes (b off n c : Nat) (f : Nat → BS) (least : Int) (w : World) (hS : SlS w (some ⟨b, off, none⟩) n f) (hn : n ≤ 1048576) (h : anchOk f least n = true) :
    Calls Try.prog 35 #[.slice (some ⟨b, off, none⟩) n c, .int .i64 least] w fun e w' => IntsOut w ((anchS f least n).map BS.id) true e w' := by
  obtain ⟨⟨hg, h12⟩, hf⟩ : (goodUpto f n = true ∧ n ≤ 12) ∧ inB least 0 100 = true := by simpa [anchOk] using h
  have hok := Lib.hid (good_lt hg)
  have hret : (goodUpto f n && decide (n ≤ 12)) = true := by simp [hg, h12]
  have hA := fun W (hb : Below w.heap.size w W) => AreSamples_any (some ⟨b, off, none⟩) n c f W (hS.below hb) hn
  rw [hret] at hA
  have HA := Lib.hid hA
  obtain ⟨i0, hi0, hz0, hz1, hz2⟩ := info_parts intA_info
  obtain ⟨q0, hq0, hy0, hy1, hy2⟩ := info_parts bs_info
  have HC := Lib.hid (fun (W : World) (hb : Below w.heap.size w W) (q j : Nat) (hq : q < n) (hj : j < 6) => show W.cell? ⟨b, off + q * 6 + j, none⟩ = some ((f q).cell j) from by
    obtain ⟨b1, o1, e1, _, hc⟩ := (Sl.below hS hb) (by omega)
    obtain ⟨rfl, rfl⟩ : b = b1 ∧ off = o1 := by simpa using e1
    exact hc q j hq hj)
  have hbx := Lib.hid (Blk.new w 3 #[.int .i64 least])
  have hL := keepL_len (fun s => decide (holdV s < least)) f n
  have HLK := Lib.hid (show ∀ i, i < (keepL (fun s => decide (holdV s < least)) f n).length → okS ((keepL (fun s => decide (holdV s < least)) f n).getD i noB) = true from fun i hi => by
    obtain ⟨q, h1, _, h2⟩ := pick_mem (p := fun i => !decide (holdV (f i) < least)) (h := f) (n := n) noB hi
    have h2 : (keepL (fun s => decide (holdV s < least)) f n).getD i noB = f q := h2
    rw [h2]
    exact hok.out q h1)
  have HSR : Hid (anchS f least n = toL (insO (ltH holdV) (fun i => (keepL (fun s => decide (holdV s < least)) f n).getD i noB) (keepL (fun s => decide (holdV s < least)) f n).length) (keepL (fun s => decide (holdV s < least)) f n).length) := rfl
  have HDE := Lib.hid (fun b3 c3 lo w3 hO hnc hp => delBS_any b3 n c3 lo f (fun s => decide (holdV s < least)) 78 #[.pointer (some ⟨w.heap.size, 0, none⟩)] w3 hO hn hnc enters_anchFn hp)
  clear hA hS hg hret h
  generalize keepL (fun s => decide (holdV s < least)) f n = K at hL HLK HSR HDE
  go_enter Try.func35, Try.ntmps35
  go_wp2_with fail
  refine (HA.out _ (by repeat' (first | (with_reducible exact Below.refl _ _) | (with_reducible assumption) | (with_reducible refine Below.alloc ?_ ?_ _) | (with_reducible refine Below.drew ?_) | (with_reducible refine Below.setCell ?_ ?_ _) | (with_reducible refine Below.stepB (by assumption) ?_ ?_) | go_size))).mono ?_
  rintro e w1 ⟨rfl, hbw1⟩
  have hBX1 := Lib.hid (hbx.out.below hbw1 (by simp))
  obtain ⟨hzw1, hcw1, hfw1⟩ := bfacts hbw1; (try simp at hzw1 hcw1 hfw1); (try (have : w.heap.size < w1.heap.size := by omega)); (try (have : w.heap.size + 1 < w1.heap.size := by omega)); (try (have : w.heap.size + 1 + 1 < w1.heap.size := by omega)); (try (have : w.heap.size + 1 + 1 + 1 < w1.heap.size := by omega))
  have hO0 := Lib.hid (ownsRow_empty w1 29 6)
  have HB1 := Lib.hid (show Below w.heap.size w w1 from by repeat' (first | (with_reducible exact Below.refl _ _) | (with_reducible assumption) | (with_reducible refine Below.alloc ?_ ?_ _) | (with_reducible refine Below.drew ?_) | (with_reducible refine Below.setCell ?_ ?_ _) | (with_reducible refine Below.stepB (by assumption) ?_ ?_) | go_size))
  go_wp2_with (first
    | (go_at_call 63; refine (inside_any _ _ _ _).mono ?_; rintro e w' ⟨rfl, rfl⟩)
    | (at_builtin; refine wpList_append_rowS _ rfl _ _ 40 rfl w1.heap.size 29 q0 _ 6 48 Try.underlying40 hq0 hy0 hy1 hy2 rfl (by decide) (.slice (some ⟨w1.heap.size, 0, none⟩) 0 0) 0 [] rfl hO0.out (by simp) b off n c (fun i j => (f i).cell j) rfl ?_ (bs_one f) (by omega) (by decide) ?_ ?_; go_must (focus (intro q j hq hj; exact HC.out _ (Below.alloc HB1.out (by omega) _) q j hq hj)); go_must (focus (simp; done)); intro b3 c3 w3 hO3 hc3 hb3 hbw3; have hz3 := hbw3.size; (try simp at hz3)))
  rw [Nat.zero_add, List.nil_append] at hO3
  rw [Nat.zero_add] at hc3
  have hOw3 := own_flat hO3
  have HOw3 := Lib.hid hOw3
  have HBX3 := Lib.hid (Blk.below (hBX1.out.alloc (.cells #[] 29)) hbw3 (by omega))
  have HB3 := Lib.hid (show Below w.heap.size w w3 from (Below.alloc HB1.out (by omega) _).trans (hbw3.mono (by omega)))
  have HKB := Lib.hid (fun W (hK : Kept w3 W (some ⟨b3, 0, none⟩) n) => hK.below hOw3.range (B := w.heap.size) (by omega) (by omega))
  clear hO3 hOw3 hbw3
  have hwl : w.heap.size < w3.heap.size := by omega
  refine (HDE.out b3 c3 w1.heap.size w3 HOw3.out (by omega) (fun k W hk hK => ?_)).mono ?_
  · have hB := (hK.block w.heap.size hwl (fun _ a ha => by obtain rfl := Option.some.inj ha; show w.heap.size ≠ b3; omega)).trans HBX3.out
    have hB : Blk W w.heap.size 3 #[.int .i64 least] := hB
    exact anchFn_any (f k) least w.heap.size W hB.lt (hB.cell 0) (hok.out k hk)
  rintro e w4 ⟨rfl, hO4, hK4⟩
  have HO4 := Lib.hid hO4
  have HB4 := Lib.hid (HB3.out.trans (HKB.out _ hK4))
  have hz4 := HB4.out.size
  have hz34 := hK4.size
  clear hO4 hK4
  go_wp2_with fail
  refine (sortBS_any b3 K.length c3 w1.heap.size (fun i => K.getD i noB) (fun s => okS s = true) (fun x y => cmpV (holdV y) (holdV x)) 80 #[] w4 HO4.out (by omega) HLK.out enters_anchCmp (fun x y W hx hy _ => anchCmp_any x y W hx hy)).mono ?_
  rintro e w5 ⟨rfl, hO5, hK5⟩
  rw [ltC_hold] at hO5
  have HB5 := Lib.hid (HB4.out.trans (hK5.below HO4.out.range (B := w.heap.size) (by omega) (by omega)))
  have hz5 := HB5.out.size
  have HS5 : Hid (SlS w5 (some ⟨b3, 0, none⟩) K.length (insO (ltH holdV) (fun i => K.getD i noB) K.length)) := hO5.sl
  clear hO5 hK5
  generalize insO (ltH holdV) (fun i => K.getD i noB) K.length = G at HS5 HSR
  obtain ⟨m, hm⟩ : ∃ m, m = K.length := ⟨_, rfl⟩
  rw [← hm] at HS5 HSR hL ⊢
  clear hm
  go_wp2
  have hO0 := Lib.hid (ownsRow_empty w5 3 1)
  go_loopw [7, 28] (fun v7 v28 wr => ∃ i : Nat, i ≤ m ∧ v28 = .int .i64 i ∧ Hid (wr.ownsRow w5.heap.size 3 1 v7 ((toL G i).map BS.id).length (((toL G i).map BS.id).map (Value.int .i64))) ∧ Below w5.heap.size w5 wr) (fun _ v28 _ => m - (intOf v28).toNat)
  case atStart => exact ⟨0, Nat.zero_le _, rfl, hO0.out, by repeat' (first | (with_reducible exact Below.refl _ _) | (with_reducible assumption) | (with_reducible refine Below.alloc ?_ ?_ _) | (with_reducible refine Below.drew ?_) | (with_reducible refine Below.setCell ?_ ?_ _) | (with_reducible refine Below.stepB (by assumption) ?_ ?_) | go_size)⟩
  case round =>
    clear hO0
    obtain ⟨i, hi, rfl, hO, hbr⟩ := hrel
    have hzr := hbr.size
    obtain ⟨A7, c7, rfl⟩ := ownsRow_form hO.out
    by_cases hlt : i < m
    · obtain ⟨b', off', e5, hbl, hbl2, d0, d1, d2, d3, d4, d5, -⟩ := HS5.out.at hbr hlt
      obtain ⟨rfl, rfl⟩ : b3 = b' ∧ off' = 0 := by simpa [eq_comm] using e5
      have HT : Hid ((toL G (i + 1)).map BS.id = (toL G i).map BS.id ++ [(G i).id]) := by show _ = _; simp [toL, List.range_succ]
      have hlen : ((toL G i).map BS.id).length ≤ i := by simp [toL_len]
      have HO := Lib.hid hO.out
      clear e5 hO
      generalize (toL G i).map BS.id = T at HT hlen HO ⊢
      simp only [Nat.zero_add] at d0 d1 d2 d3 d4 d5
      go_wp2_with (at_builtin; refine wpList_append_int1 _ rfl _ _ 51 rfl w5.heap.size 3 i0 Try.underlying51 hi0 hz0 hz1 hz2 _ _ _ rfl (((HO.out.alloc _).alloc _)) _ _ ((G i).id) rfl ?_ ?_ ?_ ?_; go_must (focus (simp; done)); go_must (focus omega); go_must (focus (first | omega | (simp; omega) | (simp; done))); intro v9 w7 hOw7 hbw7; have hzw7 := hbw7.size; (try simp at hzw7))
      go_roundw
      case rel => exact ⟨i + 1, by omega, by go_num, by rw [HT.out]; exact owns_snoc hOw7, by repeat' (first | (with_reducible exact Below.refl _ _) | (with_reducible assumption) | (with_reducible refine Below.alloc ?_ ?_ _) | (with_reducible refine Below.drew ?_) | (with_reducible refine Below.setCell ?_ ?_ _) | (with_reducible refine Below.stepB (by assumption) ?_ ?_) | go_size)⟩
      case measure => simp [intOf]; omega
    · obtain rfl : i = m := by omega
      have HO := Lib.hid hO.out
      clear hO
      go_wp2
      go_ret2
      exact IntsOut.row HO.out (by rw [HSR.out]) rfl (by omega) (HB5.out.trans (hbr.mono (by omega)))
end Go.Proofs.Ytfecepjdjikenaa
