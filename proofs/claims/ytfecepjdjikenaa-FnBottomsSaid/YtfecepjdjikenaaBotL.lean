/- The law on places to anchor, blends and counts of letters, over the contracts. -/
import Derived.Test.YtfecepjdjikenaaBotP
import Derived.Test.YtfecepjdjikenaaCurD
import Derived.Deep.CutBlock
import Derived.Deep.DeepCutAuto
namespace Go.Proofs.Ytfecepjdjikenaa
open Go.RowKit
/-- what a blend gives -/
def mixOk (a b : BS) (n : Int) : Bool := okS a && okS b && inB n 0 100
def mixA (a b : BS) (n : Int) : Int := if mixOk a b n = true then mixV a.mud b.mud n else 0
def mixB (a b : BS) (n : Int) : Int := if mixOk a b n = true then mixV a.sand b.sand n else 0
def mixC (a b : BS) (n : Int) : Int := if mixOk a b n = true then 100 - mixV a.mud b.mud n - mixV a.sand b.sand n else 0
theorem implBlend_any (a b : BS) (n : Int) (w : World) : Calls Try.prog 21 #[.agg #[.int .i64 a.id, .int .i64 a.x, .int .i64 a.y, .int .i64 a.mud, .int .i64 a.sand, .int .i64 a.rock], .agg #[.int .i64 b.id, .int .i64 b.x, .int .i64 b.y, .int .i64 b.mud, .int .i64 b.sand, .int .i64 b.rock], .int .i64 n] w fun e w' => e = .returned (.tuple #[.int .i64 (mixA a b n), .int .i64 (mixB a b n), .int .i64 (mixC a b n), .bool (mixOk a b n)]) ∧ Below w.heap.size w w' := by
  rcases Bool.eq_false_or_eq_true (mixOk a b n) with h | h
  · have h1 : (okS a = true ∧ okS b = true) ∧ inB n 0 100 = true := by simpa [mixOk] using h
    rw [mixA, mixB, mixC, h]
    exact implBlend_yes a b n w h1.1.1 h1.1.2 h1.2
  · have h1 : ¬ (okS a = true ∧ okS b = true ∧ inB n 0 100 = true) := fun h2 => by simp [mixOk, h2] at h
    rw [mixA, mixB, mixC, h]
    exact implBlend_no a b n w h1
theorem specBlend_any (a b : BS) (n : Int) (w : World) : Calls Try.prog 20 #[.agg #[.int .i64 a.id, .int .i64 a.x, .int .i64 a.y, .int .i64 a.mud, .int .i64 a.sand, .int .i64 a.rock], .agg #[.int .i64 b.id, .int .i64 b.x, .int .i64 b.y, .int .i64 b.mud, .int .i64 b.sand, .int .i64 b.rock], .int .i64 n] w fun e w' => e = .returned (.tuple #[.int .i64 (mixA a b n), .int .i64 (mixB a b n), .int .i64 (mixC a b n), .bool (mixOk a b n)]) ∧ Below w.heap.size w w' := by
  rcases Bool.eq_false_or_eq_true (mixOk a b n) with h | h
  · have h1 : (okS a = true ∧ okS b = true) ∧ inB n 0 100 = true := by simpa [mixOk] using h
    rw [mixA, mixB, mixC, h]
    exact specBlend_yes a b n w h1.1.1 h1.1.2 h1.2
  · have h1 : ¬ (okS a = true ∧ okS b = true ∧ inB n 0 100 = true) := fun h2 => by simp [mixOk, h2] at h
    rw [mixA, mixB, mixC, h]
    exact specBlend_no a b n w h1
def holdO (s : BS) : Int := if okS s = true then holdV s else 0
theorem cnts_facts {q : Bool} {g : Nat → BS} {p : Nat} {D : List (List UInt8)} {C : List Int} (h : Cnts q g p D C) (hp : p ≤ 1000) (hq : q = true) : sumK C C.length = (p : Int) ∧ (∀ i, i < p → lettV (g i) ∈ D) ∧ ∀ i, 0 ≤ C.getD i 0 ∧ C.getD i 0 ≤ 1000 := by
  rcases h with ⟨_, h⟩ | ⟨h0, _⟩
  · refine ⟨?_, fun i hi => (h.2.1 _).2 ?_, fun i => ?_⟩
    · rw [cnt_sum ltS_irr h, lettN_len]
    · exact pick_mem_iff.2 ⟨i, hi, rfl, rfl⟩
    · have h1 := cnt_bd h i
      rw [lettN_len] at h1
      omega
  · rw [hq] at h0; cases h0
theorem HoldingOf_any (s : BS) (w : World) : Calls Try.prog 19 #[.agg #[.int .i64 s.id, .int .i64 s.x, .int .i64 s.y, .int .i64 s.mud, .int .i64 s.sand, .int .i64 s.rock]] w fun e w' => e = .returned (.tuple #[.int .i64 (holdO s), .bool (okS s)]) ∧ Below w.heap.size w w' := by
  rcases Bool.eq_false_or_eq_true (okS s) with h | h
  · rw [holdO, h]
    exact HoldingOf_yes s w h
  · rw [holdO, h]
    exact HoldingOf_no s w h
theorem specHoldingOf_any (s : BS) (w : World) : Calls Try.prog 18 #[.agg #[.int .i64 s.id, .int .i64 s.x, .int .i64 s.y, .int .i64 s.mud, .int .i64 s.sand, .int .i64 s.rock]] w fun e w' => e = .returned (.tuple #[.int .i64 (holdO s), .bool (okS s)]) ∧ Below w.heap.size w w' := by
  rcases Bool.eq_false_or_eq_true (okS s) with h | h
  · rw [holdO, h]
    exact specHoldingOf_yes s w h
  · rw [holdO, h]
    exact specHoldingOf_no s w h
set_option maxRecDepth 100000 in
set_option maxHeartbeats 4000000 in
theorem law_FnBottoms (n c : Nat) (A : Option Addr) (B : Nat → Int) (w : World) (hR : ∀ i, 0 ≤ B i ∧ B i ≤ 255) (hS : Sl w 1 A n (fun i _ => .int .u8 (B i))) : Calls Try.prog 14 #[.slice A n c] w
    fun e w' => e = .returned (.bool true) ∧ Below w.heap.size w w' := by
  by_cases hn : n ≤ 65536
  · have HS := Lib.hid hS
    have HR := Lib.hid hR
    clear hS hR
    have hbig : decide (65536 < (n : Int)) = false := decide_eq_false (by omega)
    go_enter Try.func14, Try.ntmps14
    go_wp2_with (go_at_call 47; refine (rBig_any A n c _).mono ?_; rintro e w' ⟨rfl, rfl⟩)
    refine (DrawAnchor_any n c A B _ HR.out HS.out hn).mono ?_
    rintro e w1 ⟨m, b1, c1, f, least, rfl, hm, hO, hbw1⟩
    have HS1 := Lib.hid (show SlS w1 (some ⟨b1, 0, none⟩) m f from hO.sl)
    clear hO
    have hz1 := hbw1.size
    have hmm : m ≤ 1048576 := by omega
    obtain ⟨okA, hokA⟩ : ∃ q, q = anchOk f least m := ⟨_, rfl⟩
    obtain ⟨PL, hPL⟩ : ∃ L, L = anchL f least m := ⟨_, rfl⟩
    have h1 := fun W (hb : Below w1.heap.size w1 W) => AnchorPlaces_any b1 0 m c1 f least W (HS1.out.below hb) hmm
    have h2 := fun W (hb : Below w1.heap.size w1 W) => specAnchor_any (some ⟨b1, 0, none⟩) m c1 f least W (HS1.out.below hb) hmm
    rw [← hokA, ← hPL] at h1 h2
    have HA1 := Lib.hid h1
    have HA2 := Lib.hid h2
    have hPLl : PL.length ≤ 1048576 := by rw [hPL]; exact anchL_len f least m hmm
    have HME := Lib.hid (show okA = true → ∀ i, i < m → (okS (f i) = true ∧ decide ((f i).id ∈ PL) = decide (least ≤ holdV (f i))) from fun h i hi => by
      rw [hokA] at h
      rw [hPL]
      have hg : goodUpto f m = true := by
        have h' : (goodUpto f m = true ∧ m ≤ 12) ∧ inB least 0 100 = true := by simpa [anchOk] using h
        exact h'.1.1
      exact ⟨good_lt hg i hi, decide_eq_decide.2 (anch_mem h hi)⟩)
    clear h1 h2 hokA hPL
    go_wp2_with fail
    refine (HA1.out _ (Below.refl _ _)).mono ?_
    rintro e w2 ⟨A2, c2, rfl, OG, hbw2⟩
    obtain ⟨hzw2, hcw2, hfw2⟩ := bfacts hbw2; (try simp at hzw2 hcw2 hfw2); (try (have : w.heap.size < w2.heap.size := by omega)); (try (have : w.heap.size + 1 < w2.heap.size := by omega)); (try (have : w.heap.size + 1 + 1 < w2.heap.size := by omega)); (try (have : w.heap.size + 1 + 1 + 1 < w2.heap.size := by omega))
    go_wp2_with fail
    refine (HA2.out _ hbw2).mono ?_
    rintro e w3 ⟨A3, c3, rfl, OW, hbw3⟩
    obtain ⟨hzw3, hcw3, hfw3⟩ := bfacts hbw3; (try simp at hzw3 hcw3 hfw3); (try (have : w.heap.size < w3.heap.size := by omega)); (try (have : w.heap.size + 1 < w3.heap.size := by omega)); (try (have : w.heap.size + 1 + 1 < w3.heap.size := by omega)); (try (have : w.heap.size + 1 + 1 + 1 < w3.heap.size := by omega))
    have HOG := Lib.hid OG
    go_wp2_with fail
    refine (rInts_same _ _ _ _ _ _ _ (OG.below hbw3).sl OW.sl hPLl).mono ?_
    rintro e w4 ⟨rfl, hbw4⟩
    obtain ⟨hzw4, hcw4, hfw4⟩ := bfacts hbw4; (try simp at hzw4 hcw4 hfw4); (try (have : w.heap.size < w4.heap.size := by omega)); (try (have : w.heap.size + 1 < w4.heap.size := by omega)); (try (have : w.heap.size + 1 + 1 < w4.heap.size := by omega)); (try (have : w.heap.size + 1 + 1 + 1 < w4.heap.size := by omega))
    have HB4 := Lib.hid (show Below w.heap.size w w4 from by repeat' (first | (with_reducible exact Below.refl _ _) | (with_reducible assumption) | (with_reducible refine Below.alloc ?_ ?_ _) | (with_reducible refine Below.drew ?_) | (with_reducible refine Below.setCell ?_ ?_ _) | (with_reducible refine Below.stepB (by assumption) ?_ ?_) | go_size))
    have HW4 := Lib.hid (show Below w1.heap.size w1 w4 from by repeat' (first | (with_reducible exact Below.refl _ _) | (with_reducible assumption) | (with_reducible refine Below.alloc ?_ ?_ _) | (with_reducible refine Below.drew ?_) | (with_reducible refine Below.setCell ?_ ?_ _) | (with_reducible refine Below.stepB (by assumption) ?_ ?_) | go_size))
    have HG4 := Lib.hid ((HOG.out.below hbw3).below hbw4)
    have hz4 := HB4.out.size
    have hz14 := HW4.out.size
    clear OG OW hbw1 hbw2 hbw3 hbw4 hcw2 hcw3 hcw4 hfw2 hfw3 hfw4
    go_upto_block 0 with fail
    go_cut [9] (fun v9 wx => ∃ i9 : Int, v9 = .int .i64 i9 ∧ Below w4.heap.size w4 wx)
    case first =>
      go_wp2_with fail
      cases okA
      · go_loopw [9] (fun v9 wr => v9 = .int .i64 0 ∧ w4 = wr) (fun _ _ => 0)
        case atStart => exact ⟨rfl, rfl⟩
        case round =>
          obtain ⟨rfl, rfl⟩ := hrel
          by_cases hm0 : 0 < m
          · go_wp2_with fail
            go_meet
            exact ⟨_, rfl, Below.refl _ _⟩
          · go_wp2_with fail
            go_meet
            exact ⟨_, rfl, Below.refl _ _⟩
      · go_loopw [9] (fun v9 wr => ∃ i : Nat, i ≤ m ∧ v9 = .int .i64 i ∧ Below w4.heap.size w4 wr) (fun v9 _ => m - (intOf v9).toNat)
        case atStart => exact ⟨0, Nat.zero_le _, rfl, Below.refl _ _⟩
        case round =>
          obtain ⟨i, hi, rfl, hbr⟩ := hrel
          have hzr := hbr.size
          by_cases hlt : i < m
          · have hbw : Below w1.heap.size w1 wr := HW4.out.trans (hbr.mono (by omega))
            obtain ⟨b', off', e5, hbl, hbl2, d0, d1, d2, d3, d4, d5, -⟩ := HS1.out.at hbw hlt
            obtain ⟨rfl, rfl⟩ : b1 = b' ∧ off' = 0 := by simpa [eq_comm] using e5
            simp only [Nat.zero_add] at d0 d1 d2 d3 d4 d5
            obtain ⟨hok, hme⟩ := HME.out (by first | trivial | rfl) i hlt
            obtain ⟨v1, v2⟩ := hold_bd hok
            have HHi := Lib.hid (fun W => HoldingOf_yes (f i) W hok)
            have HHA := Lib.hid (fun W (hb : Below w4.heap.size w4 W) => show Calls Try.prog 53 #[.slice A2 PL.length c2, .int .i64 (f i).id] W fun e w' => e = .returned (.bool (decide (least ≤ holdV (f i)))) ∧ Below W.heap.size W w' from by
              have h := rHas_any A2 PL.length c2 PL (f i).id W ((HG4.out.below hb).sl) hPLl rfl
              rw [hme] at h
              exact h)
            clear e5 hok hme
            generalize holdV (f i) = hv at HHi HHA v1 v2
            go_wp2_with fail
            refine (HHi.out _).mono ?_
            rintro e w5 ⟨rfl, hbw5⟩
            obtain ⟨hzw5, hcw5, hfw5⟩ := bfacts hbw5; (try simp at hzw5 hcw5 hfw5); (try (have : w.heap.size < w5.heap.size := by omega)); (try (have : w.heap.size + 1 < w5.heap.size := by omega)); (try (have : w.heap.size + 1 + 1 < w5.heap.size := by omega)); (try (have : w.heap.size + 1 + 1 + 1 < w5.heap.size := by omega))
            go_wp2_with fail
            refine (HHA.out _ (by repeat' (first | (with_reducible exact Below.refl _ _) | (with_reducible assumption) | (with_reducible refine Below.alloc ?_ ?_ _) | (with_reducible refine Below.drew ?_) | (with_reducible refine Below.setCell ?_ ?_ _) | (with_reducible refine Below.stepB (by assumption) ?_ ?_) | go_size))).mono ?_
            rintro e w6 ⟨rfl, hbw6⟩
            obtain ⟨hzw6, hcw6, hfw6⟩ := bfacts hbw6; (try simp at hzw6 hcw6 hfw6); (try (have : w.heap.size < w6.heap.size := by omega)); (try (have : w.heap.size + 1 < w6.heap.size := by omega)); (try (have : w.heap.size + 1 + 1 < w6.heap.size := by omega)); (try (have : w.heap.size + 1 + 1 + 1 < w6.heap.size := by omega))
            go_wp2
            go_roundw
            case rel => exact ⟨i + 1, by omega, by go_num, by repeat' (first | (with_reducible exact Below.refl _ _) | (with_reducible assumption) | (with_reducible refine Below.alloc ?_ ?_ _) | (with_reducible refine Below.drew ?_) | (with_reducible refine Below.setCell ?_ ?_ _) | (with_reducible refine Below.stepB (by assumption) ?_ ?_) | go_size)⟩
            case measure => simp [intOf]; omega
          · obtain rfl : i = m := by omega
            go_wp2_with fail
            go_meet
            exact ⟨_, rfl, hbr⟩
    obtain ⟨i9, rfl, hbc⟩ := hcut
    have HBr := Lib.hid (HB4.out.trans (hbc.mono hz4))
    have hzbr : w.heap.size ≤ wc.heap.size := HBr.out.size
    clear hbc
    go_wp2_with fail
    refine (DrawBlendSamples_any n c A B _ HR.out (HS.out.below HBr.out) hn).mono ?_
    rintro e w5 ⟨s1, s2, x, rfl, hbw5⟩
    have HB5 := Lib.hid (HBr.out.trans (hbw5.mono HBr.out.size))
    have hz5 := HB5.out.size
    clear hbw5
    obtain ⟨ob, hob⟩ : ∃ q, q = mixOk s1 s2 x := ⟨_, rfl⟩
    have h1 := fun W => implBlend_any s1 s2 x W
    have h2 := fun W => specBlend_any s1 s2 x W
    rw [← hob] at h1 h2
    have HM : Hid (ob = true → okS s1 = true ∧ okS s2 = true ∧ mixA s1 s2 x + mixB s1 s2 x + mixC s1 s2 x = 100 ∧ okS ⟨1, 0, 0, mixA s1 s2 x, mixB s1 s2 x, mixC s1 s2 x⟩ = true) := fun h => by
      rw [hob] at h
      have h1 : (okS s1 = true ∧ okS s2 = true) ∧ inB x 0 100 = true := by simpa [mixOk] using h
      rw [mixA, mixB, mixC, if_pos h, if_pos h, if_pos h]
      exact ⟨h1.1.1, h1.1.2, by omega, mix_ok h1.1.1 h1.1.2 h1.2⟩
    clear hob
    generalize mixA s1 s2 x = xa at h1 h2 HM
    generalize mixB s1 s2 x = xb at h1 h2 HM
    generalize mixC s1 s2 x = xc at h1 h2 HM
    have H1 := Lib.hid h1
    have H2 := Lib.hid h2
    clear h1 h2
    have HT5 := Lib.hid ((blk_newC (g := w5.heap.size) (t := 29) (cs := #[.int .i64 s1.id, .int .i64 s1.x, .int .i64 s1.y, .int .i64 s1.mud, .int .i64 s1.sand, .int .i64 s1.rock]) w5 rfl).alloc (.cells #[.int .i64 s2.id, .int .i64 s2.x, .int .i64 s2.y, .int .i64 s2.mud, .int .i64 s2.sand, .int .i64 s2.rock] 29))
    have HU5 := Lib.hid (blk_newC (g := w5.heap.size + 1) (t := 29) (cs := #[.int .i64 s2.id, .int .i64 s2.x, .int .i64 s2.y, .int .i64 s2.mud, .int .i64 s2.sand, .int .i64 s2.rock]) (w5.alloc (.cells #[.int .i64 s1.id, .int .i64 s1.x, .int .i64 s1.y, .int .i64 s1.mud, .int .i64 s1.sand, .int .i64 s1.rock] 29)) (by simp))
    go_wp2_with fail
    refine (H1.out _).mono ?_
    rintro e w6 ⟨rfl, hbw6⟩
    obtain ⟨hzw6, hcw6, hfw6⟩ := bfacts hbw6; (try simp at hzw6 hcw6 hfw6); (try (have : w.heap.size < w6.heap.size := by omega)); (try (have : w.heap.size + 1 < w6.heap.size := by omega)); (try (have : w.heap.size + 1 + 1 < w6.heap.size := by omega)); (try (have : w.heap.size + 1 + 1 + 1 < w6.heap.size := by omega))
    go_wp2_with fail
    refine (H2.out _).mono ?_
    rintro e w7 ⟨rfl, hbw7⟩
    obtain ⟨hzw7, hcw7, hfw7⟩ := bfacts hbw7; (try simp at hzw7 hcw7 hfw7); (try (have : w.heap.size < w7.heap.size := by omega)); (try (have : w.heap.size + 1 < w7.heap.size := by omega)); (try (have : w.heap.size + 1 + 1 < w7.heap.size := by omega)); (try (have : w.heap.size + 1 + 1 + 1 < w7.heap.size := by omega))
    have HT7 := Lib.hid ((HT5.out.below hbw6 (by simp; omega)).below hbw7 (by omega))
    have HU7 := Lib.hid ((HU5.out.below hbw6 (by simp)).below hbw7 (by omega))
    have HB7 := Lib.hid (show Below w.heap.size w w7 from by have := HB5.out; repeat' (first | (with_reducible exact Below.refl _ _) | (with_reducible assumption) | (with_reducible refine Below.alloc ?_ ?_ _) | (with_reducible refine Below.drew ?_) | (with_reducible refine Below.setCell ?_ ?_ _) | (with_reducible refine Below.stepB (by assumption) ?_ ?_) | go_size))
    have hz57 : w5.heap.size + 1 < w7.heap.size := by omega
    clear hcw6 hcw7 hfw6 hfw7
    go_upto_region 17 with fail
    go_cut [162] (fun v wx => v = .bool false ∧ w7 = wx)
    case first =>
      cases ob
      · go_wp2_with fail
        go_meet
        exact ⟨rfl, rfl⟩
      · obtain ⟨-, -, o3, o4⟩ := HM.out (by first | trivial | rfl)
        obtain ⟨⟨-, -, ⟨q1, q2⟩, ⟨q3, q4⟩, ⟨q5, q6⟩⟩, -⟩ := okS_bd o4
        replace q1 : 0 ≤ xa := q1
        replace q2 : xa ≤ 100 := q2
        replace q3 : 0 ≤ xb := q3
        replace q4 : xb ≤ 100 := q4
        replace q5 : 0 ≤ xc := q5
        replace q6 : xc ≤ 100 := q6
        have hsn : (xa + xb + xc != 100) = false := by simp [o3]
        have hse : (xa + xb + xc == 100) = true := by simp [o3]
        clear o3 o4
        go_wp2_with fail
        go_meet
        exact ⟨rfl, rfl⟩
    obtain ⟨rfl, rfl⟩ := hcut
    go_upto_if 163 with fail
    go_cut [23, 24, 25, 26] (fun v23 v24 v25 v26 wx => Below w7.heap.size w7 wx)
    case first =>
      cases ob
      · go_wp2_with fail
        go_meet
        exact Below.refl _ _
      · obtain ⟨o1, o2, o3, o4⟩ := HM.out (by first | trivial | rfl)
        have hIS := fun W => show Calls Try.prog 17 #[.agg #[.int .i64 1, .int .i64 0, .int .i64 0, .int .i64 xa, .int .i64 xb, .int .i64 xc]] W fun e w' => e = .returned (.bool true) ∧ Below W.heap.size W w' from by
          have h := IsSample_any ⟨1, 0, 0, xa, xb, xc⟩ W
          rw [o4] at h
          exact h
        have HIS := Lib.hid hIS
        have hBZ := fun W => show Calls Try.prog 21 #[.agg #[.int .i64 s1.id, .int .i64 s1.x, .int .i64 s1.y, .int .i64 s1.mud, .int .i64 s1.sand, .int .i64 s1.rock], .agg #[.int .i64 s2.id, .int .i64 s2.x, .int .i64 s2.y, .int .i64 s2.mud, .int .i64 s2.sand, .int .i64 s2.rock], .int .i64 0] W fun e w' => e = .returned (.tuple #[.int .i64 s1.mud, .int .i64 s1.sand, .int .i64 s1.rock, .bool true]) ∧ Below W.heap.size W w' from by
          have h := implBlend_yes s1 s2 0 W o1 o2 (by decide)
          have hb := okS_bd o1
          rw [mix_zero, mix_zero, show 100 - s1.mud - s1.sand = s1.rock by omega] at h
          exact h
        have HBZ := Lib.hid hBZ
        obtain ⟨⟨-, -, ⟨q1, q2⟩, ⟨q3, q4⟩, ⟨q5, q6⟩⟩, -⟩ := okS_bd o4
        replace q1 : 0 ≤ xa := q1
        replace q2 : xa ≤ 100 := q2
        replace q3 : 0 ≤ xb := q3
        replace q4 : xb ≤ 100 := q4
        replace q5 : 0 ≤ xc := q5
        replace q6 : xc ≤ 100 := q6
        clear hIS hBZ o1 o2 o3 o4
        have t0 : w7.cell? ⟨w5.heap.size, 0, none⟩ = some (.int .i64 s1.id) := HT7.out.cell 0
        have t1 : w7.cell? ⟨w5.heap.size, 1, none⟩ = some (.int .i64 s1.x) := HT7.out.cell 1
        have t2 : w7.cell? ⟨w5.heap.size, 2, none⟩ = some (.int .i64 s1.y) := HT7.out.cell 2
        have t3 : w7.cell? ⟨w5.heap.size, 3, none⟩ = some (.int .i64 s1.mud) := HT7.out.cell 3
        have t4 : w7.cell? ⟨w5.heap.size, 4, none⟩ = some (.int .i64 s1.sand) := HT7.out.cell 4
        have t5 : w7.cell? ⟨w5.heap.size, 5, none⟩ = some (.int .i64 s1.rock) := HT7.out.cell 5
        have u0 : w7.cell? ⟨w5.heap.size + 1, 0, none⟩ = some (.int .i64 s2.id) := HU7.out.cell 0
        have u1 : w7.cell? ⟨w5.heap.size + 1, 1, none⟩ = some (.int .i64 s2.x) := HU7.out.cell 1
        have u2 : w7.cell? ⟨w5.heap.size + 1, 2, none⟩ = some (.int .i64 s2.y) := HU7.out.cell 2
        have u3 : w7.cell? ⟨w5.heap.size + 1, 3, none⟩ = some (.int .i64 s2.mud) := HU7.out.cell 3
        have u4 : w7.cell? ⟨w5.heap.size + 1, 4, none⟩ = some (.int .i64 s2.sand) := HU7.out.cell 4
        have u5 : w7.cell? ⟨w5.heap.size + 1, 5, none⟩ = some (.int .i64 s2.rock) := HU7.out.cell 5
        go_wp2_with fail
        refine (HBZ.out _).mono ?_
        rintro e w8 ⟨rfl, hbw8⟩
        obtain ⟨hzw8, hcw8, hfw8⟩ := bfacts hbw8; (try simp at hzw8 hcw8 hfw8); (try (have : w.heap.size < w8.heap.size := by omega)); (try (have : w.heap.size + 1 < w8.heap.size := by omega)); (try (have : w.heap.size + 1 + 1 < w8.heap.size := by omega)); (try (have : w.heap.size + 1 + 1 + 1 < w8.heap.size := by omega))
        have x3 : w8.cell? ⟨w5.heap.size, 3, none⟩ = some (.int .i64 s1.mud) := (HT7.out.below hbw8 (by omega)).cell 3
        have x4 : w8.cell? ⟨w5.heap.size, 4, none⟩ = some (.int .i64 s1.sand) := (HT7.out.below hbw8 (by omega)).cell 4
        have x5 : w8.cell? ⟨w5.heap.size, 5, none⟩ = some (.int .i64 s1.rock) := (HT7.out.below hbw8 (by omega)).cell 5
        have hl8 : w5.heap.size < w8.heap.size := by omega
        clear t0 t1 t2 t3 t4 t5 u0 u1 u2 u3 u4 u5 hcw8 hfw8
        go_wp2_with fail
        refine (HIS.out _).mono ?_
        rintro e w9 ⟨rfl, hbw9⟩
        obtain ⟨hzw9, hcw9, hfw9⟩ := bfacts hbw9; (try simp at hzw9 hcw9 hfw9); (try (have : w.heap.size < w9.heap.size := by omega)); (try (have : w.heap.size + 1 < w9.heap.size := by omega)); (try (have : w.heap.size + 1 + 1 < w9.heap.size := by omega)); (try (have : w.heap.size + 1 + 1 + 1 < w9.heap.size := by omega))
        have HB9 := Lib.hid (show Below w7.heap.size w7 w9 from by repeat' (first | (with_reducible exact Below.refl _ _) | (with_reducible assumption) | (with_reducible refine Below.alloc ?_ ?_ _) | (with_reducible refine Below.drew ?_) | (with_reducible refine Below.setCell ?_ ?_ _) | (with_reducible refine Below.stepB (by assumption) ?_ ?_) | go_size))
        go_wp2_with fail
        go_meet
        exact HB9.out

    have HBz := Lib.hid (HB7.out.trans (hcut.mono (HB7.out.size)))
    clear hcut
    as_aux_lemma =>
      go_wp2_with fail
      have hzb : w.heap.size ≤ wc.heap.size := HBz.out.size
      refine (DrawLetterCounts_any n c A B _ HR.out (HS.out.below HBz.out) hn).mono ?_
      rintro e w8 ⟨p, b8, c8, g, rfl, hp, hO, hbw8⟩
      have HS8 := Lib.hid (show SlS w8 (some ⟨b8, 0, none⟩) p g from hO.sl)
      have HB8 := Lib.hid (HBz.out.trans (hbw8.mono hzb))
      have hz8 := HB8.out.size
      have hpp : p ≤ 1048576 := by omega
      clear hO hbw8
      have h1 := fun W (hb : Below w8.heap.size w8 W) => LetterCounts_any (some ⟨b8, 0, none⟩) p c8 g W (HS8.out.below hb) hpp
      have h2 := fun W (hb : Below w8.heap.size w8 W) => specCounts_any (some ⟨b8, 0, none⟩) p c8 g W (HS8.out.below hb) hpp
      have h3 := fun W (hb : Below w8.heap.size w8 W) => show Calls Try.prog 25 #[.slice (some ⟨b8, 0, none⟩) p c8] W fun e w' => e = .returned (.bool (cntsOk g p)) ∧ Below W.heap.size W w' from AreSamples_any (some ⟨b8, 0, none⟩) p c8 g W (HS8.out.below hb) hpp
      have h4 : cntsOk g p = true → p ≤ 12 ∧ ∀ i, i < p → okS (g i) = true := fun h => by
        have h' : goodUpto g p = true ∧ p ≤ 12 := by simpa [cntsOk] using h
        exact ⟨h'.2, good_lt h'.1⟩
      generalize cntsOk g p = okC at h1 h2 h3 h4
      have H1 := Lib.hid h1
      have H2 := Lib.hid h2
      have H3 := Lib.hid h3
      have H4 := Lib.hid h4
      clear h1 h2 h3 h4
      go_wp2_with fail
      refine (H1.out _ (Below.refl _ _)).mono ?_
      rintro e w9 ⟨D, C, hDC, hDn, A9, c9, A9', c9', rfl, OG, OG', -, hbw9⟩
      obtain ⟨hzw9, hcw9, hfw9⟩ := bfacts hbw9; (try simp at hzw9 hcw9 hfw9); (try (have : w.heap.size < w9.heap.size := by omega)); (try (have : w.heap.size + 1 < w9.heap.size := by omega)); (try (have : w.heap.size + 1 + 1 < w9.heap.size := by omega)); (try (have : w.heap.size + 1 + 1 + 1 < w9.heap.size := by omega))
      go_wp2_with fail
      refine (H2.out _ hbw9).mono ?_
      rintro e w10 ⟨D2, C2, hDC2, -, A10, c10, A10', c10', rfl, OW, OW', -, hbw10⟩
      obtain ⟨hzw10, hcw10, hfw10⟩ := bfacts hbw10; (try simp at hzw10 hcw10 hfw10); (try (have : w.heap.size < w10.heap.size := by omega)); (try (have : w.heap.size + 1 < w10.heap.size := by omega)); (try (have : w.heap.size + 1 + 1 < w10.heap.size := by omega)); (try (have : w.heap.size + 1 + 1 + 1 < w10.heap.size := by omega))
      obtain ⟨rfl, rfl⟩ := cnts_one hDC hDC2
      clear hDC2
      have hl := cnts_len hDC
      have hDl : D.length ≤ 1048576 := by omega
      have hCl : C.length ≤ 1048576 := by omega
      have hCl2 : C.length ≤ 1000 := by omega
      have HFC := Lib.hid (cnts_facts hDC (by omega))
      have HOG := Lib.hid OG
      have HOG' := Lib.hid OG'
      clear hDC hl
      have HOW := Lib.hid OW
      have HOW' := Lib.hid OW'
      have HB10 := Lib.hid (show Below w.heap.size w w10 from by have := HB8.out; repeat' (first | (with_reducible exact Below.refl _ _) | (with_reducible assumption) | (with_reducible refine Below.alloc ?_ ?_ _) | (with_reducible refine Below.drew ?_) | (with_reducible refine Below.setCell ?_ ?_ _) | (with_reducible refine Below.stepB (by assumption) ?_ ?_) | go_size))
      have HW10 := Lib.hid (show Below w8.heap.size w8 w10 from by repeat' (first | (with_reducible exact Below.refl _ _) | (with_reducible assumption) | (with_reducible refine Below.alloc ?_ ?_ _) | (with_reducible refine Below.drew ?_) | (with_reducible refine Below.setCell ?_ ?_ _) | (with_reducible refine Below.stepB (by assumption) ?_ ?_) | go_size))
      have HG10 := Lib.hid (HOG.out.below hbw10)
      have HC10 := Lib.hid (HOG'.out.below hbw10)
      have hz10 := HB10.out.size
      have hz810 := HW10.out.size
      clear OG OG' OW OW' hbw9 hbw10 hcw9 hcw10 hfw9 hfw10
      go_upto_region 26 with fail
      go_cut [244] (fun v wx => v = .bool false ∧ Below w10.heap.size w10 wx)
      case first =>
        go_wp2_with fail
        refine (rTexts_same _ _ _ _ _ _ _ HG10.out.sl HOW.out.sl hDl).mono ?_
        rintro e w11 ⟨rfl, hbw11⟩
        obtain ⟨hzw11, hcw11, hfw11⟩ := bfacts hbw11; (try simp at hzw11 hcw11 hfw11); (try (have : w.heap.size < w11.heap.size := by omega)); (try (have : w.heap.size + 1 < w11.heap.size := by omega)); (try (have : w.heap.size + 1 + 1 < w11.heap.size := by omega)); (try (have : w.heap.size + 1 + 1 + 1 < w11.heap.size := by omega))
        go_wp2_with fail
        refine (rInts_same _ _ _ _ _ _ _ (HC10.out.below hbw11).sl (HOW'.out.below hbw11).sl hCl).mono ?_
        rintro e w12 ⟨rfl, hbw12⟩
        obtain ⟨hzw12, hcw12, hfw12⟩ := bfacts hbw12; (try simp at hzw12 hcw12 hfw12); (try (have : w.heap.size < w12.heap.size := by omega)); (try (have : w.heap.size + 1 < w12.heap.size := by omega)); (try (have : w.heap.size + 1 + 1 < w12.heap.size := by omega)); (try (have : w.heap.size + 1 + 1 + 1 < w12.heap.size := by omega))
        have hb12 := hbw11.trans (hbw12.mono hbw11.size)
        have hz12 := hb12.size
        have HW12 := Lib.hid (HW10.out.trans (hb12.mono hz810))
        have HC12 := Lib.hid (HC10.out.below hb12)
        have hz812 := HW12.out.size
        cases okC
        · go_wp2_with fail
          refine (H3.out _ HW12.out).mono ?_
          rintro e w13 ⟨rfl, hbw13⟩
          go_wp2_with fail
          go_meet
          exact ⟨rfl, hb12.trans (hbw13.mono hz12)⟩
        · obtain ⟨f1, _, f3⟩ := HFC.out (by first | trivial | rfl)
          have HRS := Lib.hid (fun W (hb : Below w12.heap.size w12 W) => show Calls Try.prog 59 #[.slice A9' C.length c9'] W fun e w' => e = .returned (.int .i64 (p : Int)) ∧ Below W.heap.size W w' from by
            have h := rSum_any A9' c9' C W (HC12.out.below hb).sl hCl2 f3
            rw [f1] at h
            exact h)
          clear f1 f3
          go_wp2_with fail
          refine (HRS.out _ (Below.refl _ _)).mono ?_
          rintro e w13 ⟨rfl, hbw13⟩
          go_wp2_with fail
          refine (H3.out _ (HW12.out.trans (hbw13.mono (by omega)))).mono ?_
          rintro e w14 ⟨rfl, hbw14⟩
          go_wp2_with fail
          go_meet
          exact ⟨rfl, hb12.trans ((hbw13.trans (hbw14.mono hbw13.size)).mono hz12)⟩
      obtain ⟨rfl, hb14⟩ := hcut
      rename World => w14
      have HB14 := Lib.hid (HB10.out.trans (hb14.mono hz10))
      have HW14 := Lib.hid (HW10.out.trans (hb14.mono hz810))
      have HG14 := Lib.hid (HG10.out.below hb14)
      have hz14 := HB14.out.size
      have hz814 := HW14.out.size
      clear hb14
      go_upto_block 2 with fail
      go_cut [34] (fun v34 wx => ∃ i9 : Int, v34 = .int .i64 i9 ∧ Below w14.heap.size w14 wx)
      case first =>
        go_wp2_with fail
        cases okC
        · go_loopw [34] (fun v34 wr => v34 = .int .i64 0 ∧ w14 = wr) (fun _ _ => 0)
          case atStart => exact ⟨rfl, rfl⟩
          case round =>
            obtain ⟨rfl, rfl⟩ := hrel
            by_cases hp0 : 0 < p
            · go_wp2_with fail
              go_meet
              exact ⟨_, rfl, Below.refl _ _⟩
            · go_wp2_with fail
              go_meet
              exact ⟨_, rfl, Below.refl _ _⟩
        · obtain ⟨_, f2, _⟩ := HFC.out (by first | trivial | rfl)
          obtain ⟨hp12, hok⟩ := H4.out (by first | trivial | rfl)
          have HF2 := Lib.hid f2
          have HOK := Lib.hid hok
          clear f2 hok
          go_loopw [34] (fun v34 wr => ∃ i : Nat, i ≤ p ∧ v34 = .int .i64 i ∧ Below w14.heap.size w14 wr) (fun v34 _ => p - (intOf v34).toNat)
          case atStart => exact ⟨0, Nat.zero_le _, rfl, Below.refl _ _⟩
          case round =>
            rename World => wq
            obtain ⟨i, hi, rfl, hbr⟩ := hrel
            have hzr := hbr.size
            by_cases hlt : i < p
            · have hbw : Below w8.heap.size w8 wq := HW14.out.trans (hbr.mono (by omega))
              obtain ⟨b', off', e5, hbl, hbl2, d0, d1, d2, d3, d4, d5, -⟩ := HS8.out.at hbw hlt
              obtain ⟨rfl, rfl⟩ : b8 = b' ∧ off' = 0 := by simpa [eq_comm] using e5
              simp only [Nat.zero_add] at d0 d1 d2 d3 d4 d5
              have hok := HOK.out i hlt
              have hme := HF2.out i hlt
              have hL1 := fun W => LettersOf_yes (g i) W hok
              have hL2 := fun W (hb : Below w14.heap.size w14 W) => show Calls Try.prog 60 #[.slice A9 D.length c9, .string ⟨(lettV (g i)).toArray⟩] W fun e w' => e = .returned (.bool true) ∧ Below W.heap.size W w' from by
                have h := rHasText_any A9 D.length c9 D (lettV (g i)) W ((HG14.out.below hb).sl) hDl rfl
                rw [decide_eq_true hme] at h
                exact h
              clear e5 hok hme
              generalize lettV (g i) = sv at hL1 hL2
              have HL1 := Lib.hid hL1
              have HL2 := Lib.hid hL2
              clear hL1 hL2
              go_wp2_with fail
              refine (HL1.out _).mono ?_
              rintro e w15 ⟨rfl, hbw15⟩
              obtain ⟨hzw15, hcw15, hfw15⟩ := bfacts hbw15; (try simp at hzw15 hcw15 hfw15); (try (have : w.heap.size < w15.heap.size := by omega)); (try (have : w.heap.size + 1 < w15.heap.size := by omega)); (try (have : w.heap.size + 1 + 1 < w15.heap.size := by omega)); (try (have : w.heap.size + 1 + 1 + 1 < w15.heap.size := by omega))
              go_wp2_with fail
              refine (HL2.out _ (by repeat' (first | (with_reducible exact Below.refl _ _) | (with_reducible assumption) | (with_reducible refine Below.alloc ?_ ?_ _) | (with_reducible refine Below.drew ?_) | (with_reducible refine Below.setCell ?_ ?_ _) | (with_reducible refine Below.stepB (by assumption) ?_ ?_) | go_size))).mono ?_
              rintro e w16 ⟨rfl, hbw16⟩
              obtain ⟨hzw16, hcw16, hfw16⟩ := bfacts hbw16; (try simp at hzw16 hcw16 hfw16); (try (have : w.heap.size < w16.heap.size := by omega)); (try (have : w.heap.size + 1 < w16.heap.size := by omega)); (try (have : w.heap.size + 1 + 1 < w16.heap.size := by omega)); (try (have : w.heap.size + 1 + 1 + 1 < w16.heap.size := by omega))
              go_wp2
              go_roundw
              case rel => exact ⟨i + 1, by omega, by go_num, by repeat' (first | (with_reducible exact Below.refl _ _) | (with_reducible assumption) | (with_reducible refine Below.alloc ?_ ?_ _) | (with_reducible refine Below.drew ?_) | (with_reducible refine Below.setCell ?_ ?_ _) | (with_reducible refine Below.stepB (by assumption) ?_ ?_) | go_size)⟩
              case measure => simp [intOf]; omega
            · obtain rfl : i = p := by omega
              go_wp2_with fail
              go_meet
              exact ⟨_, rfl, hbr⟩

      obtain ⟨i10, rfl, hbc⟩ := hcut
      have HBy := Lib.hid (HB14.out.trans (hbc.mono hz14))
      clear hbc
      have hzc : w.heap.size ≤ wc.heap.size := HBy.out.size
      go_wp2_with fail
      refine (DrawHoldingOf_any n c A B _ HR.out (HS.out.below HBy.out) hn).mono ?_
      rintro e w20 ⟨s, rfl, hbw20⟩
      have HB20 := Lib.hid (HBy.out.trans (hbw20.mono hzc))
      have hz20 := HB20.out.size
      clear hbw20
      have H1 := Lib.hid (fun W => HoldingOf_any s W)
      have H2 := Lib.hid (fun W => specHoldingOf_any s W)
      go_wp2_with fail
      refine (H1.out _).mono ?_
      rintro e w21 ⟨rfl, hbw21⟩
      obtain ⟨hzw21, hcw21, hfw21⟩ := bfacts hbw21; (try simp at hzw21 hcw21 hfw21); (try (have : w.heap.size < w21.heap.size := by omega)); (try (have : w.heap.size + 1 < w21.heap.size := by omega)); (try (have : w.heap.size + 1 + 1 < w21.heap.size := by omega)); (try (have : w.heap.size + 1 + 1 + 1 < w21.heap.size := by omega))
      go_wp2_with fail
      refine (H2.out _).mono ?_
      rintro e w22 ⟨rfl, hbw22⟩
      obtain ⟨hzw22, hcw22, hfw22⟩ := bfacts hbw22; (try simp at hzw22 hcw22 hfw22); (try (have : w.heap.size < w22.heap.size := by omega)); (try (have : w.heap.size + 1 < w22.heap.size := by omega)); (try (have : w.heap.size + 1 + 1 < w22.heap.size := by omega)); (try (have : w.heap.size + 1 + 1 + 1 < w22.heap.size := by omega))
      have hb := HB20.out
      go_wp2
      go_ret
      refine ⟨rfl, ?_⟩
      repeat' (first | (with_reducible exact Below.refl _ _) | (with_reducible assumption) | (with_reducible refine Below.alloc ?_ ?_ _) | (with_reducible refine Below.drew ?_) | (with_reducible refine Below.setCell ?_ ?_ _) | (with_reducible refine Below.stepB (by assumption) ?_ ?_) | go_size)
  · have hbig : decide (65536 < (n : Int)) = true := decide_eq_true (by omega)
    clear hS hR
    go_enter Try.func14, Try.ntmps14
    go_wp2_with (go_at_call 47; refine (rBig_any A n c _).mono ?_; rintro e w' ⟨rfl, rfl⟩)
    go_ret
    exact ⟨rfl, Below.refl _ _⟩
end Go.Proofs.Ytfecepjdjikenaa
