/- The law on the merged field, over the contracts. -/
import Derived.Test.YtepibbjcmjabiaaFieldJ
import Derived.Test.YtepibbjcmjabiaaFieldH
import Derived.Deep.DeepCutAuto
import Derived.Deep.RegionLaw
namespace Go.Proofs.Ytepibbjcmjabiaa
open Go.RowKit
theorem heldField_any (r cl : Int) (A : Option Addr) (n c : Nat) (w : World) (q : Int) (hO : SlI w A n (fun i => q + i)) (hn : n ≤ 1048576) (q0 : 0 ≤ q) (q1 : q ≤ 4000000000000) : Calls Try.prog 20 #[.agg #[.int .i64 r, .int .i64 cl, .slice A n c], .int .i64 q] w
    fun e w' => e = .returned (.int .i64 (q + n)) ∧ Below w.heap.size w w' := by
  have HO := Lib.hid hO
  clear hO
  have hq : ¬ (q + (n : Int) < 0) := by omega
  go_enter Try.func20, Try.ntmps20
  go_wp2_with fail
  refine (heldIntS_any A n c _ q (HO.out.below (by repeat' (first | (with_reducible exact Below.refl _ _) | (with_reducible assumption) | (with_reducible refine Below.alloc ?_ ?_ _) | (with_reducible refine Below.drew ?_) | (with_reducible refine Below.setCell ?_ ?_ _) | (with_reducible refine Below.stepB (by assumption) ?_ ?_) | go_size))) hn q0 q1).mono ?_
  rintro e w1 ⟨rfl, hbw1⟩
  obtain ⟨hzw1, hcw1, hfw1⟩ := bfacts hbw1; (try simp at hzw1 hcw1 hfw1); (try (have : w.heap.size < w1.heap.size := by omega)); (try (have : w.heap.size + 1 < w1.heap.size := by omega)); (try (have : w.heap.size + 1 + 1 < w1.heap.size := by omega)); (try (have : w.heap.size + 1 + 1 + 1 < w1.heap.size := by omega))
  go_wp2
  go_ret
  exact ⟨rfl, by repeat' (first | (with_reducible exact Below.refl _ _) | (with_reducible assumption) | (with_reducible refine Below.alloc ?_ ?_ _) | (with_reducible refine Below.drew ?_) | (with_reducible refine Below.setCell ?_ ?_ _) | (with_reducible refine Below.stepB (by assumption) ?_ ?_) | go_size)⟩
theorem szField_at (r cl : Int) (A : Option Addr) (n c : Nat) (s : Int) (w : World) (hn : (n : Int) ≤ s) (hs : s ≤ 1048576) : Calls Try.prog 8 #[.agg #[.int .i64 r, .int .i64 cl, .slice A n c], .int .i64 s] w
    fun e w' => e = .returned (.int .i64 (s - n)) ∧ Below w.heap.size w w' := by
  have h := szField_any r cl A n c s w (by omega) (by omega) hs
  rwa [if_pos hn] at h
theorem mergeL_len (L1 L2 : Nat → Int) (n : Nat) : (mergeL L1 L2 n).length ≤ n := pick_len n
theorem mrgL_len (q : Bool) (L1 L2 : Nat → Int) (n : Nat) : (mrgL q (mergeL L1 L2 n)).length ≤ n := by
  unfold mrgL
  split
  · exact mergeL_len _ _ _
  · simp
/-- a box that holds a field -/
def Bx (w : World) (g : Nat) (t : TypeId) (r cl : Int) (A : Option Addr) (n c : Nat) : Prop := Blk w g t #[.int .i64 r, .int .i64 cl, .slice A n c]
theorem Bx.cells {w : World} {g : Nat} {t : TypeId} {r cl : Int} {A : Option Addr} {n c : Nat} (h : Bx w g t r cl A n c) : g < w.heap.size ∧ w.cell? ⟨g, 0, none⟩ = some (.int .i64 r) ∧ w.cell? ⟨g, 1, none⟩ = some (.int .i64 cl) ∧ w.cell? ⟨g, 2, none⟩ = some (.slice A n c) :=
  ⟨Blk.lt h, (Blk.cell h 0), (Blk.cell h 1), (Blk.cell h 2)⟩
theorem Bx.below {w w' : World} {g : Nat} {t : TypeId} {r cl : Int} {A : Option Addr} {n c B : Nat} (h : Bx w g t r cl A n c) (hb : Below B w w') (hg : g < B) : Bx w' g t r cl A n c := Blk.below h hb hg
theorem Bx.kept {w w' : World} {g : Nat} {t : TypeId} {r cl : Int} {A : Option Addr} {n c : Nat} {A' : Option Addr} {m lo hi : Nat} (h : Bx w g t r cl A n c) (hk : Kept w w' A' m) (hr : InR A' m lo hi) (hg : g < lo ∨ hi ≤ g) : Bx w' g t r cl A n c := Blk.kept h hk hr hg
theorem Bx.fill {w : World} {g : Nat} {t : TypeId} {r cl : Int} {A : Option Addr} {n c : Nat} (h : Blk w g t #[.int .i64 0, .int .i64 0, .slice none 0 0]) :
    Bx (((w.setCell ⟨g, 0, none⟩ (.int .i64 r)).setCell ⟨g, 1, none⟩ (.int .i64 cl)).setCell ⟨g, 2, none⟩ (.slice A n c)) g t r cl A n c := ((h.set_ 0 _).set_ 1 _).set_ 2 _
theorem own_fill {w : World} {g lo : Nat} {r cl : Int} {A A' : Option Addr} {n n' c : Nat} {L : Nat → Int} (h : OwnI w lo A' n' L) (hg : g < lo) :
    OwnI (((w.setCell ⟨g, 0, none⟩ (.int .i64 r)).setCell ⟨g, 1, none⟩ (.int .i64 cl)).setCell ⟨g, 2, none⟩ (.slice A n c)) lo A' n' L := ((Own.setFar h hg).setFar hg).setFar hg
theorem reg_new {w2 w5 : World} {t : TypeId} {R C : Int} {Aw : Option Addr} {m cw lo : Nat} {L : Nat → Int} (hb : Below w2.heap.size w2 w5) (OW : OwnI w5 lo Aw m L) (hlo : w2.heap.size ≤ lo) :
    w2.heap.size ≤ w5.heap.size ∧ Bx (w5.alloc (.cells #[.int .i64 R, .int .i64 C, .slice Aw m cw] t)) w5.heap.size t R C Aw m cw ∧ OwnI (w5.alloc (.cells #[.int .i64 R, .int .i64 C, .slice Aw m cw] t)) w2.heap.size Aw m L ∧
      Below w2.heap.size w2 (w5.alloc (.cells #[.int .i64 R, .int .i64 C, .slice Aw m cw] t)) :=
  ⟨hb.size, Blk.new w5 _ _, Own.below (Own.more OW hlo) (Below.alloc (Below.refl _ _) (Nat.le_refl _) _), hb.alloc hb.size _⟩
theorem reg_old {w2 w5 : World} {t : TypeId} {R C : Int} {Aw : Option Addr} {m cw lo g : Nat} {L : Nat → Int} (hg2 : w2.heap.size ≤ g) (hZ : Blk w5 g t #[.int .i64 0, .int .i64 0, .slice none 0 0]) (hb : Below w2.heap.size w2 w5) (OW : OwnI w5 lo Aw m L) (hglo : g < lo) (hlo : w2.heap.size ≤ lo) :
    w2.heap.size ≤ g ∧ Bx (((w5.setCell ⟨g, 0, none⟩ (.int .i64 R)).setCell ⟨g, 1, none⟩ (.int .i64 C)).setCell ⟨g, 2, none⟩ (.slice Aw m cw)) g t R C Aw m cw ∧ OwnI (((w5.setCell ⟨g, 0, none⟩ (.int .i64 R)).setCell ⟨g, 1, none⟩ (.int .i64 C)).setCell ⟨g, 2, none⟩ (.slice Aw m cw)) w2.heap.size Aw m L ∧
      Below w2.heap.size w2 (((w5.setCell ⟨g, 0, none⟩ (.int .i64 R)).setCell ⟨g, 1, none⟩ (.int .i64 C)).setCell ⟨g, 2, none⟩ (.slice Aw m cw)) :=
  ⟨hg2, Bx.fill hZ, Own.more (own_fill OW hglo) hlo, ((hb.setCell hg2 _).setCell hg2 _).setCell hg2 _⟩
set_option maxHeartbeats 4000000 in
set_option maxRecDepth 100000 in
theorem law_MergeFields (r cl : Int) (A : Option Addr) (n c : Nat) (L : Nat → Int) (r2 cl2 : Int) (A2 : Option Addr) (n2 c2 : Nat) (L2 : Nat → Int) (w : World) (hS : SlI w A n L) (hS2 : SlI w A2 n2 L2) (hm : n ≤ 9223372036854775807) (hm2 : n2 ≤ 9223372036854775807) :
    Calls Try.prog 6 #[.agg #[.int .i64 r, .int .i64 cl, .slice A n c], .agg #[.int .i64 r2, .int .i64 cl2, .slice A2 n2 c2]] w fun e w' => e = .returned (.bool true) ∧ Below w.heap.size w w' := by
  have HS := Lib.hid hS
  have HS2 := Lib.hid hS2
  clear hS hS2
  by_cases hn : n ≤ 1048576
  rotate_left
  · go_enter Try.func6, Try.ntmps6
    go_wp2_with fail
    refine (szField_no r cl A n c _ _ (by omega) hm (by decide) (by decide)).mono ?_
    rintro e w1 ⟨rfl, hbw1⟩
    obtain ⟨hzw1, hcw1, hfw1⟩ := bfacts hbw1; (try simp at hzw1 hcw1 hfw1); (try (have : w.heap.size < w1.heap.size := by omega)); (try (have : w.heap.size + 1 < w1.heap.size := by omega)); (try (have : w.heap.size + 1 + 1 < w1.heap.size := by omega)); (try (have : w.heap.size + 1 + 1 + 1 < w1.heap.size := by omega))
    go_wp2
    go_ret
    exact ⟨rfl, by repeat' (first | (with_reducible exact Below.refl _ _) | (with_reducible assumption) | (with_reducible refine Below.alloc ?_ ?_ _) | (with_reducible refine Below.drew ?_) | (with_reducible refine Below.setCell ?_ ?_ _) | (with_reducible refine Below.stepB (by assumption) ?_ ?_) | go_size)⟩
  by_cases hnm : n + n2 ≤ 1048576
  rotate_left
  · have hlt : (1048576 : Int) - n < n2 := by omega
    go_enter Try.func6, Try.ntmps6
    go_wp2_with fail
    refine (szField_yes r cl A n c _ hn).mono ?_
    rintro e w1 ⟨rfl, hbw1⟩
    obtain ⟨hzw1, hcw1, hfw1⟩ := bfacts hbw1; (try simp at hzw1 hcw1 hfw1); (try (have : w.heap.size < w1.heap.size := by omega)); (try (have : w.heap.size + 1 < w1.heap.size := by omega)); (try (have : w.heap.size + 1 + 1 < w1.heap.size := by omega)); (try (have : w.heap.size + 1 + 1 + 1 < w1.heap.size := by omega))
    go_wp2_with fail
    refine (szField_no r2 cl2 A2 n2 c2 _ _ hlt hm2 (by omega) (by omega)).mono ?_
    rintro e w2 ⟨rfl, hbw2⟩
    obtain ⟨hzw2, hcw2, hfw2⟩ := bfacts hbw2; (try simp at hzw2 hcw2 hfw2); (try (have : w.heap.size < w2.heap.size := by omega)); (try (have : w.heap.size + 1 < w2.heap.size := by omega)); (try (have : w.heap.size + 1 + 1 < w2.heap.size := by omega)); (try (have : w.heap.size + 1 + 1 + 1 < w2.heap.size := by omega))
    go_wp2
    go_ret
    exact ⟨rfl, by repeat' (first | (with_reducible exact Below.refl _ _) | (with_reducible assumption) | (with_reducible refine Below.alloc ?_ ?_ _) | (with_reducible refine Below.drew ?_) | (with_reducible refine Below.setCell ?_ ?_ _) | (with_reducible refine Below.stepB (by assumption) ?_ ?_) | go_size)⟩
  have hn2 : n2 ≤ 1048576 := by omega
  have h4 : (n2 : Int) ≤ 1048576 - n := by omega
  have HSP := Lib.hid (fun (B1 B2 : Nat) W (h1 : SlI W (some ⟨B1, 0, none⟩) n L) (h2 : SlI W (some ⟨B2, 0, none⟩) n2 L2) => specMerge_any r cl (some ⟨B1, 0, none⟩) n n L r2 cl2 (some ⟨B2, 0, none⟩) n2 n2 L2 W h1 h2 hn hn2)
  have HIM := Lib.hid (fun (B1 B2 : Nat) W (h1 : SlI W (some ⟨B1, 0, none⟩) n L) (h2 : SlI W (some ⟨B2, 0, none⟩) n2 L2) => MergeFields_any r cl (some ⟨B1, 0, none⟩) n n L r2 cl2 (some ⟨B2, 0, none⟩) n2 n2 L2 W h1 h2 hn hn2)
  have HT1 := Lib.hid (fun W (hb : Below w.heap.size w W) => toField_ex r cl A n c L W (Sl.below HS.out hb) hn)
  have HT2 := Lib.hid (fun W (hb : Below w.heap.size w W) => toField_ex r2 cl2 A2 n2 c2 L2 W (Sl.below HS2.out hb) hn2)
  have hR := Nat.le_trans (mrgL_len (mergeB r cl n L r2 cl2 n2 L2) L L2 n) hn
  generalize mrgR (mergeB r cl n L r2 cl2 n2 L2) r = R at HSP HIM
  generalize mrgR (mergeB r cl n L r2 cl2 n2 L2) cl = C at HSP HIM
  generalize mrgL (mergeB r cl n L r2 cl2 n2 L2) (mergeL L L2 n) = M at HSP HIM hR
  generalize mergeB r cl n L r2 cl2 n2 L2 = ok at HSP HIM
  have HR := Lib.hid hR
  clear hR
  go_enter Try.func6, Try.ntmps6
  go_wp2_with fail
  refine (szField_yes r cl A n c _ hn).mono ?_
  rintro e w1 ⟨rfl, hbw1⟩
  obtain ⟨hzw1, hcw1, hfw1⟩ := bfacts hbw1; (try simp at hzw1 hcw1 hfw1); (try (have : w.heap.size < w1.heap.size := by omega)); (try (have : w.heap.size + 1 < w1.heap.size := by omega)); (try (have : w.heap.size + 1 + 1 < w1.heap.size := by omega)); (try (have : w.heap.size + 1 + 1 + 1 < w1.heap.size := by omega))
  go_wp2_with fail
  refine (szField_at r2 cl2 A2 n2 c2 _ _ h4 (by omega)).mono ?_
  rintro e w2 ⟨rfl, hbw2⟩
  obtain ⟨hzw2, hcw2, hfw2⟩ := bfacts hbw2; (try simp at hzw2 hcw2 hfw2); (try (have : w.heap.size < w2.heap.size := by omega)); (try (have : w.heap.size + 1 < w2.heap.size := by omega)); (try (have : w.heap.size + 1 + 1 < w2.heap.size := by omega)); (try (have : w.heap.size + 1 + 1 + 1 < w2.heap.size := by omega))
  have hB1 : Bx w2 w.heap.size 24 r cl A n c := Blk.below (B := w.heap.size + 1 + 1) ((blk_new w _ _ rfl).alloc _) (by repeat' (first | (with_reducible exact Below.refl _ _) | (with_reducible assumption) | (with_reducible refine Below.alloc ?_ ?_ _) | (with_reducible refine Below.drew ?_) | (with_reducible refine Below.setCell ?_ ?_ _) | (with_reducible refine Below.stepB (by assumption) ?_ ?_) | go_size)) (by omega)
  have hB2 : Bx w2 (w.heap.size + 1) 24 r2 cl2 A2 n2 c2 := Blk.below (B := w.heap.size + 1 + 1) (blk_new (w.alloc (.cells #[.int .i64 r, .int .i64 cl, .slice A n c] 24)) _ _ (by simp)) (by repeat' (first | (with_reducible exact Below.refl _ _) | (with_reducible assumption) | (with_reducible refine Below.alloc ?_ ?_ _) | (with_reducible refine Below.drew ?_) | (with_reducible refine Below.setCell ?_ ?_ _) | (with_reducible refine Below.stepB (by assumption) ?_ ?_) | go_size)) (by omega)
  obtain ⟨hl1, a0, a1, a2⟩ := hB1.cells
  obtain ⟨hl2, b0, b1, b2⟩ := hB2.cells
  have HB := Lib.hid (And.intro hB1 hB2)
  clear hB1 hB2 hcw1 hcw2
  go_upto_region 8 with fail
  go_cut [6, 7] (fun v6 v7 wx => ∃ (g6 : Nat) (Aw : Option Addr) (cw : Nat), v6 = .pointer (some ⟨g6, 0, none⟩) ∧ v7 = .bool ok ∧ w2.heap.size ≤ g6 ∧ Bx wx g6 27 R C Aw M.length cw ∧ OwnI wx w2.heap.size Aw M.length (fun i => M.getD i 0) ∧ Below w2.heap.size w2 wx)
  case first =>
    have hp2 : ¬ w.heap.size = w2.heap.size := by omega
    have hq2 : ¬ w2.heap.size = w.heap.size := by omega
    have hr2 : ¬ w.heap.size + 1 = w2.heap.size := by omega
    have hs2 : ¬ w2.heap.size = w.heap.size + 1 := by omega
    go_region_law (first
      | (go_simp; go_at_call 10; with_reducible refine (HT1.out _ (by repeat' (first | (with_reducible exact Below.refl _ _) | (with_reducible assumption) | (with_reducible refine Below.alloc ?_ ?_ _) | (with_reducible refine Below.drew ?_) | (with_reducible refine Below.setCell ?_ ?_ _) | (with_reducible refine Below.stepB (by assumption) ?_ ?_) | go_size))).mono ?_; rintro e w3 ⟨b3, rfl, hO3, hbw3⟩; obtain ⟨hzw3, hcw3, hfw3⟩ := bfacts hbw3; (try simp at hzw3 hcw3 hfw3); (try (have : w.heap.size < w3.heap.size := by omega)); (try (have : w.heap.size + 1 < w3.heap.size := by omega)); (try (have : w.heap.size + 1 + 1 < w3.heap.size := by omega)); (try (have : w.heap.size + 1 + 1 + 1 < w3.heap.size := by omega)); have hl3 : w.heap.size + 1 < w3.heap.size := (by omega); have hm3 : w.heap.size < w3.heap.size + 1 := (by omega); have hn3 : w.heap.size ≤ w3.heap.size := (by omega); have ho3 : w.heap.size + 1 < w3.heap.size + 1 := (by omega); (try (have ht23 : w2.heap.size < w3.heap.size := (by omega))); (try (have hu23 : w2.heap.size < w3.heap.size + 1 := (by omega))); have hp3 : ¬ w.heap.size = w3.heap.size := (by omega); have hq3 : ¬ w3.heap.size = w.heap.size := (by omega); have hr3 : ¬ w.heap.size + 1 = w3.heap.size := (by omega); have hs3 : ¬ w3.heap.size = w.heap.size + 1 := (by omega))
      | (go_simp; go_at_call 10; with_reducible refine (HT2.out _ (by repeat' (first | (with_reducible exact Below.refl _ _) | (with_reducible assumption) | (with_reducible refine Below.alloc ?_ ?_ _) | (with_reducible refine Below.drew ?_) | (with_reducible refine Below.setCell ?_ ?_ _) | (with_reducible refine Below.stepB (by assumption) ?_ ?_) | go_size))).mono ?_; rintro e w4 ⟨b4, rfl, hO4, hbw4⟩; obtain ⟨hzw4, hcw4, hfw4⟩ := bfacts hbw4; (try simp at hzw4 hcw4 hfw4); (try (have : w.heap.size < w4.heap.size := by omega)); (try (have : w.heap.size + 1 < w4.heap.size := by omega)); (try (have : w.heap.size + 1 + 1 < w4.heap.size := by omega)); (try (have : w.heap.size + 1 + 1 + 1 < w4.heap.size := by omega)); have hl4 : w.heap.size + 1 < w4.heap.size := (by omega); have hm4 : w.heap.size < w4.heap.size + 1 := (by omega); have hn4 : w.heap.size ≤ w4.heap.size := (by omega); have ho4 : w.heap.size + 1 < w4.heap.size + 1 := (by omega); (try (have ht24 : w2.heap.size < w4.heap.size := (by omega))); (try (have hu24 : w2.heap.size < w4.heap.size + 1 := (by omega))); (try (have ht34 : w3.heap.size < w4.heap.size := (by omega))); (try (have hu34 : w3.heap.size < w4.heap.size + 1 := (by omega))); have hp4 : ¬ w.heap.size = w4.heap.size := (by omega); have hq4 : ¬ w4.heap.size = w.heap.size := (by omega); have hr4 : ¬ w.heap.size + 1 = w4.heap.size := (by omega); have hs4 : ¬ w4.heap.size = w.heap.size + 1 := (by omega))
      | (go_simp; go_at_call 17; refine (HSP.out _ _ _ (Own.sl (Own.below hO3 (by repeat' (first | (with_reducible exact Below.refl _ _) | (with_reducible assumption) | (with_reducible refine Below.alloc ?_ ?_ _) | (with_reducible refine Below.drew ?_) | (with_reducible refine Below.setCell ?_ ?_ _) | (with_reducible refine Below.stepB (by assumption) ?_ ?_) | go_size)))) (Own.sl (Own.below hO4 (by repeat' (first | (with_reducible exact Below.refl _ _) | (with_reducible assumption) | (with_reducible refine Below.alloc ?_ ?_ _) | (with_reducible refine Below.drew ?_) | (with_reducible refine Below.setCell ?_ ?_ _) | (with_reducible refine Below.stepB (by assumption) ?_ ?_) | go_size))))).mono ?_; rintro e w5 ⟨Aw, cw, rfl, OW, hbw5⟩; obtain ⟨hzw5, hcw5, hfw5⟩ := bfacts hbw5; (try simp at hzw5 hcw5 hfw5); (try (have : w.heap.size < w5.heap.size := by omega)); (try (have : w.heap.size + 1 < w5.heap.size := by omega)); (try (have : w.heap.size + 1 + 1 < w5.heap.size := by omega)); (try (have : w.heap.size + 1 + 1 + 1 < w5.heap.size := by omega)); have hl5 : w.heap.size + 1 < w5.heap.size := (by omega); have hm5 : w.heap.size < w5.heap.size + 1 := (by omega); have hn5 : w.heap.size ≤ w5.heap.size := (by omega); have ho5 : w.heap.size + 1 < w5.heap.size + 1 := (by omega); (try (have ht25 : w2.heap.size < w5.heap.size := (by omega))); (try (have hu25 : w2.heap.size < w5.heap.size + 1 := (by omega))); (try (have ht35 : w3.heap.size < w5.heap.size := (by omega))); (try (have hu35 : w3.heap.size < w5.heap.size + 1 := (by omega))); (try (have ht45 : w4.heap.size < w5.heap.size := (by omega))); (try (have hu45 : w4.heap.size < w5.heap.size + 1 := (by omega))); have hp5 : ¬ w.heap.size = w5.heap.size := (by omega); have hq5 : ¬ w5.heap.size = w.heap.size := (by omega); have hr5 : ¬ w.heap.size + 1 = w5.heap.size := (by omega); have hs5 : ¬ w5.heap.size = w.heap.size + 1 := (by omega)))
    all_goals (go_wp2_with fail; go_meet)
    all_goals refine ⟨_, Aw, cw, rfl, rfl, ?_⟩
    all_goals first
      | (with_reducible refine reg_new ?_ OW ?_) 
      | (with_reducible refine reg_old ?_ ?_ ?_ OW ?_ ?_)
    all_goals first
      | omega
      | (simp; omega)
      | (simp; done)
      | exact (blk_new w4 _ _ rfl).below hbw5 (by simp)
      | exact ((blk_new w3 _ _ rfl).below hbw4 (by simp)).below hbw5 (by omega)
      | exact (((Blk.drew (blk_new w2 _ _ rfl)).below hbw3 (by simp)).below hbw4 (by omega)).below hbw5 (by omega)
      | (repeat' (first | (with_reducible exact Below.refl _ _) | (with_reducible assumption) | (with_reducible refine Below.alloc ?_ ?_ _) | (with_reducible refine Below.drew ?_) | (with_reducible refine Below.setCell ?_ ?_ _) | (with_reducible refine Below.stepB (by assumption) ?_ ?_) | go_size))
  obtain ⟨g6, Aw, cw, rfl, rfl, hg6, hX6, OW, hbc⟩ := hcut
  have hzc := hbc.size
  have HOK : Hid (HR.out = HR.out) := rfl
  obtain ⟨hB1, hB2⟩ := HB.out
  have hC1 := hB1.below hbc hl1
  have hC2 := hB2.below hbc hl2
  obtain ⟨l1, x0, x1, x2⟩ := hC1.cells
  obtain ⟨l2, y0, y1, y2⟩ := hC2.cells
  have l6 := hX6.cells.1
  have HC1 := Lib.hid hC1
  have HC2 := Lib.hid hC2
  have HX6 := Lib.hid hX6
  have HOW := Lib.hid OW
  clear hB1 hB2 hC1 hC2 hX6 OW a0 a1 a2 b0 b1 b2
  have HBC : Hid (Below w.heap.size w wc) := Lib.hid (by repeat' (first | (with_reducible exact Below.refl _ _) | (with_reducible assumption) | (with_reducible refine Below.alloc ?_ ?_ _) | (with_reducible refine Below.drew ?_) | (with_reducible refine Below.setCell ?_ ?_ _) | (with_reducible refine Below.stepB (by assumption) ?_ ?_) | go_size))
  clear hbc hbw1 hbw2 hfw1 hfw2
  have hbc := HBC.out
  go_wp2_with fail
  refine (HT1.out _ (by repeat' (first | (with_reducible exact Below.refl _ _) | (with_reducible assumption) | (with_reducible refine Below.alloc ?_ ?_ _) | (with_reducible refine Below.drew ?_) | (with_reducible refine Below.setCell ?_ ?_ _) | (with_reducible refine Below.stepB (by assumption) ?_ ?_) | go_size))).mono ?_
  rintro e w6 ⟨b6, rfl, hO6, hbw6⟩
  obtain ⟨hzw6, hcw6, hfw6⟩ := bfacts hbw6; (try simp at hzw6 hcw6 hfw6); (try (have : w.heap.size < w6.heap.size := by omega)); (try (have : w.heap.size + 1 < w6.heap.size := by omega)); (try (have : w.heap.size + 1 + 1 < w6.heap.size := by omega)); (try (have : w.heap.size + 1 + 1 + 1 < w6.heap.size := by omega))
  have l61 : w.heap.size < w6.heap.size + 1 := by omega
  have l62 : w.heap.size + 1 < w6.heap.size + 1 := by omega
  have hS6 : Hid (Below w.heap.size w w6) := Lib.hid (by repeat' (first | (with_reducible exact Below.refl _ _) | (with_reducible assumption) | (with_reducible refine Below.alloc ?_ ?_ _) | (with_reducible refine Below.drew ?_) | (with_reducible refine Below.setCell ?_ ?_ _) | (with_reducible refine Below.stepB (by assumption) ?_ ?_) | go_size))
  go_wp2_with fail
  refine (HT2.out _ (by repeat' (first | (with_reducible exact Below.refl _ _) | (with_reducible assumption) | (with_reducible refine Below.alloc ?_ ?_ _) | (with_reducible refine Below.drew ?_) | (with_reducible refine Below.setCell ?_ ?_ _) | (with_reducible refine Below.stepB (by assumption) ?_ ?_) | go_size))).mono ?_
  rintro e w7 ⟨b7, rfl, hO7, hbw7⟩
  obtain ⟨hzw7, hcw7, hfw7⟩ := bfacts hbw7; (try simp at hzw7 hcw7 hfw7); (try (have : w.heap.size < w7.heap.size := by omega)); (try (have : w.heap.size + 1 < w7.heap.size := by omega)); (try (have : w.heap.size + 1 + 1 < w7.heap.size := by omega)); (try (have : w.heap.size + 1 + 1 + 1 < w7.heap.size := by omega))
  have h67 : w6.heap.size < w7.heap.size := by omega
  have h67b : ¬ w6.heap.size = w7.heap.size := by omega
  have h67c : ¬ w7.heap.size = w6.heap.size := by omega
  have hXr := Own.range hO6
  have hYr := Own.range hO7
  have HO6 := Lib.hid hO6
  have HO7 := Lib.hid hO7
  clear hO6 hO7
  go_wp2_with fail
  refine (HIM.out _ _ _ (Own.sl (Own.below HO6.out (by repeat' (first | (with_reducible exact Below.refl _ _) | (with_reducible assumption) | (with_reducible refine Below.alloc ?_ ?_ _) | (with_reducible refine Below.drew ?_) | (with_reducible refine Below.setCell ?_ ?_ _) | (with_reducible refine Below.stepB (by assumption) ?_ ?_) | go_size)))) (Own.sl (Own.below HO7.out (by repeat' (first | (with_reducible exact Below.refl _ _) | (with_reducible assumption) | (with_reducible refine Below.alloc ?_ ?_ _) | (with_reducible refine Below.drew ?_) | (with_reducible refine Below.setCell ?_ ?_ _) | (with_reducible refine Below.stepB (by assumption) ?_ ?_) | go_size))))).mono ?_
  rintro e w8 ⟨Ag, cg, rfl, OG, hbw8⟩
  obtain ⟨hzw8, hcw8, hfw8⟩ := bfacts hbw8; (try simp at hzw8 hcw8 hfw8); (try (have : w.heap.size < w8.heap.size := by omega)); (try (have : w.heap.size + 1 < w8.heap.size := by omega)); (try (have : w.heap.size + 1 + 1 < w8.heap.size := by omega)); (try (have : w.heap.size + 1 + 1 + 1 < w8.heap.size := by omega))
  have HOG := Lib.hid OG
  have hGr := Own.range OG
  clear OG
  have hB8a := Bx.below (w' := w8) HC1.out (B := wc.heap.size) (by repeat' (first | (with_reducible exact Below.refl _ _) | (with_reducible assumption) | (with_reducible refine Below.alloc ?_ ?_ _) | (with_reducible refine Below.drew ?_) | (with_reducible refine Below.setCell ?_ ?_ _) | (with_reducible refine Below.stepB (by assumption) ?_ ?_) | go_size)) l1
  have hB8b := Bx.below (w' := w8) HC2.out (B := wc.heap.size) (by repeat' (first | (with_reducible exact Below.refl _ _) | (with_reducible assumption) | (with_reducible refine Below.alloc ?_ ?_ _) | (with_reducible refine Below.drew ?_) | (with_reducible refine Below.setCell ?_ ?_ _) | (with_reducible refine Below.stepB (by assumption) ?_ ?_) | go_size)) l2
  have hB8c := Bx.below (w' := w8) HX6.out (B := wc.heap.size) (by repeat' (first | (with_reducible exact Below.refl _ _) | (with_reducible assumption) | (with_reducible refine Below.alloc ?_ ?_ _) | (with_reducible refine Below.drew ?_) | (with_reducible refine Below.setCell ?_ ?_ _) | (with_reducible refine Below.stepB (by assumption) ?_ ?_) | go_size)) l6
  have hB8d : Bx w8 w6.heap.size 27 r cl (some ⟨b6, 0, none⟩) n n := Blk.below (B := w6.heap.size + 1) (blk_new w6 _ _ rfl) (by repeat' (first | (with_reducible exact Below.refl _ _) | (with_reducible assumption) | (with_reducible refine Below.alloc ?_ ?_ _) | (with_reducible refine Below.drew ?_) | (with_reducible refine Below.setCell ?_ ?_ _) | (with_reducible refine Below.stepB (by assumption) ?_ ?_) | go_size)) (by omega)
  have hB8e : Bx w8 w7.heap.size 27 r2 cl2 (some ⟨b7, 0, none⟩) n2 n2 := Blk.below (B := w7.heap.size + 1) (blk_new w7 _ _ rfl) (by repeat' (first | (with_reducible exact Below.refl _ _) | (with_reducible assumption) | (with_reducible refine Below.alloc ?_ ?_ _) | (with_reducible refine Below.drew ?_) | (with_reducible refine Below.setCell ?_ ?_ _) | (with_reducible refine Below.stepB (by assumption) ?_ ?_) | go_size)) (by omega)
  have hB8 : Hid (Below wc.heap.size wc w8) := Lib.hid (by repeat' (first | (with_reducible exact Below.refl _ _) | (with_reducible assumption) | (with_reducible refine Below.alloc ?_ ?_ _) | (with_reducible refine Below.drew ?_) | (with_reducible refine Below.setCell ?_ ?_ _) | (with_reducible refine Below.stepB (by assumption) ?_ ?_) | go_size))
  obtain ⟨_, z0, z1, z2⟩ := hB8c.cells
  have l8c := hB8c.cells.1
  have HB8 := Lib.hid (And.intro hB8a (And.intro hB8b (And.intro hB8c (And.intro hB8d hB8e))))
  clear hB8a hB8b hB8c hB8d hB8e
  clear hcw6 hfw6 hcw7 hfw7 hcw8 hfw8 x0 x1 x2 y0 y1 y2
  have h8n : ¬ g6 = w8.heap.size := by omega
  have h8m : ¬ w8.heap.size = g6 := by omega
  go_wp2_with fail
  refine (eqField_same R C _ _ _ _ _ _ _ (Own.sl (Own.below HOG.out (by repeat' (first | (with_reducible exact Below.refl _ _) | (with_reducible assumption) | (with_reducible refine Below.alloc ?_ ?_ _) | (with_reducible refine Below.drew ?_) | (with_reducible refine Below.setCell ?_ ?_ _) | (with_reducible refine Below.stepB (by assumption) ?_ ?_) | go_size)))) (Own.sl (Own.below HOW.out (by have := hB8.out; repeat' (first | (with_reducible exact Below.refl _ _) | (with_reducible assumption) | (with_reducible refine Below.alloc ?_ ?_ _) | (with_reducible refine Below.drew ?_) | (with_reducible refine Below.setCell ?_ ?_ _) | (with_reducible refine Below.stepB (by assumption) ?_ ?_) | go_size)))) HR.out).mono ?_
  rintro e w9 ⟨rfl, hbw9⟩
  obtain ⟨hzw9, hcw9, hfw9⟩ := bfacts hbw9; (try simp at hzw9 hcw9 hfw9); (try (have : w.heap.size < w9.heap.size := by omega)); (try (have : w.heap.size + 1 < w9.heap.size := by omega)); (try (have : w.heap.size + 1 + 1 < w9.heap.size := by omega)); (try (have : w.heap.size + 1 + 1 + 1 < w9.heap.size := by omega))
  obtain ⟨k1, k2, k3, k4, k5⟩ := HB8.out
  have q1 := Bx.below (w' := w9) k1 (B := w8.heap.size) (by repeat' (first | (with_reducible exact Below.refl _ _) | (with_reducible assumption) | (with_reducible refine Below.alloc ?_ ?_ _) | (with_reducible refine Below.drew ?_) | (with_reducible refine Below.setCell ?_ ?_ _) | (with_reducible refine Below.stepB (by assumption) ?_ ?_) | go_size)) k1.cells.1
  have q2 := Bx.below (w' := w9) k2 (B := w8.heap.size) (by repeat' (first | (with_reducible exact Below.refl _ _) | (with_reducible assumption) | (with_reducible refine Below.alloc ?_ ?_ _) | (with_reducible refine Below.drew ?_) | (with_reducible refine Below.setCell ?_ ?_ _) | (with_reducible refine Below.stepB (by assumption) ?_ ?_) | go_size)) k2.cells.1
  have q3 := Bx.below (w' := w9) k3 (B := w8.heap.size) (by repeat' (first | (with_reducible exact Below.refl _ _) | (with_reducible assumption) | (with_reducible refine Below.alloc ?_ ?_ _) | (with_reducible refine Below.drew ?_) | (with_reducible refine Below.setCell ?_ ?_ _) | (with_reducible refine Below.stepB (by assumption) ?_ ?_) | go_size)) k3.cells.1
  have q4 := Bx.below (w' := w9) k4 (B := w8.heap.size) (by repeat' (first | (with_reducible exact Below.refl _ _) | (with_reducible assumption) | (with_reducible refine Below.alloc ?_ ?_ _) | (with_reducible refine Below.drew ?_) | (with_reducible refine Below.setCell ?_ ?_ _) | (with_reducible refine Below.stepB (by assumption) ?_ ?_) | go_size)) k4.cells.1
  have q5 := Bx.below (w' := w9) k5 (B := w8.heap.size) (by repeat' (first | (with_reducible exact Below.refl _ _) | (with_reducible assumption) | (with_reducible refine Below.alloc ?_ ?_ _) | (with_reducible refine Below.drew ?_) | (with_reducible refine Below.setCell ?_ ?_ _) | (with_reducible refine Below.stepB (by assumption) ?_ ?_) | go_size)) k5.cells.1
  have q6 : Bx w9 w8.heap.size 27 R C Ag M.length cg := Blk.below (B := w8.heap.size + 1) (blk_new w8 _ _ rfl) (by repeat' (first | (with_reducible exact Below.refl _ _) | (with_reducible assumption) | (with_reducible refine Below.alloc ?_ ?_ _) | (with_reducible refine Below.drew ?_) | (with_reducible refine Below.setCell ?_ ?_ _) | (with_reducible refine Below.stepB (by assumption) ?_ ?_) | go_size)) (by omega)
  have H9 := Lib.hid (And.intro q1 (And.intro q2 (And.intro q3 (And.intro q4 (And.intro q5 q6)))))
  have j1 := q1.cells.1
  have j2 := q2.cells.1
  have j3 := q3.cells.1
  have j4 := q4.cells.1
  have j5 := q5.cells.1
  have j6 := q6.cells.1
  obtain ⟨-, a0, a1, a2⟩ := q1.cells
  obtain ⟨-, d0, d1, d2⟩ := q4.cells
  clear k1 k2 k3 k4 k5 q1 q2 q3 q4 q5 q6 hcw9 hfw9 z0 z1 z2
  have hS9 : Hid (Below w.heap.size w w9) := Lib.hid (by have h1 := hS6.out; repeat' (first | (with_reducible exact Below.refl _ _) | (with_reducible assumption) | (with_reducible refine Below.alloc ?_ ?_ _) | (with_reducible refine Below.drew ?_) | (with_reducible refine Below.setCell ?_ ?_ _) | (with_reducible refine Below.stepB (by assumption) ?_ ?_) | go_size))
  have HE1 := Lib.hid (fun A1 A2 c1 c2 W (h1 : SlI W A1 n L) (h2 : SlI W A2 n L) => eqField_same r cl A1 A2 n c1 c2 L W h1 h2 hn)
  have HE2 := Lib.hid (fun A1 A2 c1 c2 W (h1 : SlI W A1 n2 L2) (h2 : SlI W A2 n2 L2) => eqField_same r2 cl2 A1 A2 n2 c1 c2 L2 W h1 h2 hn2)
  have hT6 : Hid (Below w6.heap.size w6 w9) := Lib.hid (by repeat' (first | (with_reducible exact Below.refl _ _) | (with_reducible assumption) | (with_reducible refine Below.alloc ?_ ?_ _) | (with_reducible refine Below.drew ?_) | (with_reducible refine Below.setCell ?_ ?_ _) | (with_reducible refine Below.stepB (by assumption) ?_ ?_) | go_size))
  have hT7 : Hid (Below w7.heap.size w7 w9) := Lib.hid (by repeat' (first | (with_reducible exact Below.refl _ _) | (with_reducible assumption) | (with_reducible refine Below.alloc ?_ ?_ _) | (with_reducible refine Below.drew ?_) | (with_reducible refine Below.setCell ?_ ?_ _) | (with_reducible refine Below.stepB (by assumption) ?_ ?_) | go_size))
  have hT8 : Hid (Below w8.heap.size w8 w9) := Lib.hid (by repeat' (first | (with_reducible exact Below.refl _ _) | (with_reducible assumption) | (with_reducible refine Below.alloc ?_ ?_ _) | (with_reducible refine Below.drew ?_) | (with_reducible refine Below.setCell ?_ ?_ _) | (with_reducible refine Below.stepB (by assumption) ?_ ?_) | go_size))
  have hTc : Hid (Below wc.heap.size wc w9) := Lib.hid (by have := hB8.out; repeat' (first | (with_reducible exact Below.refl _ _) | (with_reducible assumption) | (with_reducible refine Below.alloc ?_ ?_ _) | (with_reducible refine Below.drew ?_) | (with_reducible refine Below.setCell ?_ ?_ _) | (with_reducible refine Below.stepB (by assumption) ?_ ?_) | go_size))
  clear hbw6 hbw7 hbw8 hbw9
  have hs9 := hS9.out
  have hzs9 := hs9.size
  go_wp2
  go_region_held3 (fun w' => (w'.cell? ⟨w.heap.size, 0, none⟩ = some (.int .i64 r) ∧ w'.cell? ⟨w.heap.size, 1, none⟩ = some (.int .i64 cl) ∧ w'.cell? ⟨w.heap.size, 2, none⟩ = some (.slice A n c)) ∧ w'.cell? ⟨w6.heap.size, 0, none⟩ = some (.int .i64 r) ∧ w'.cell? ⟨w6.heap.size, 1, none⟩ = some (.int .i64 cl) ∧ w'.cell? ⟨w6.heap.size, 2, none⟩ = some (.slice (some ⟨b6, 0, none⟩) n n)) (first | go_keep | ((try dsimp only); (repeat' apply And.intro) <;> go_keep)) (first
      | (go_at_call 10; refine (HT1.out _ (by repeat' (first | (with_reducible exact Below.refl _ _) | (with_reducible assumption) | (with_reducible refine Below.alloc ?_ ?_ _) | (with_reducible refine Below.drew ?_) | (with_reducible refine Below.setCell ?_ ?_ _) | (with_reducible refine Below.stepB (by assumption) ?_ ?_) | go_size))).mono ?_; rintro e w10 ⟨b10, rfl, hO10, hbw10⟩; obtain ⟨hzw10, hcw10, hfw10⟩ := bfacts hbw10; (try simp at hzw10 hcw10 hfw10); (try (have : w.heap.size < w10.heap.size := by omega)); (try (have : w.heap.size + 1 < w10.heap.size := by omega)); (try (have : w.heap.size + 1 + 1 < w10.heap.size := by omega)); (try (have : w.heap.size + 1 + 1 + 1 < w10.heap.size := by omega)); have g10 : w6.heap.size < w10.heap.size := by omega)
      | (go_at_call 12; refine (HE1.out _ _ _ _ _ (Own.sl (Own.below HO6.out (by have := hT6.out; repeat' (first | (with_reducible exact Below.refl _ _) | (with_reducible assumption) | (with_reducible refine Below.alloc ?_ ?_ _) | (with_reducible refine Below.drew ?_) | (with_reducible refine Below.setCell ?_ ?_ _) | (with_reducible refine Below.stepB (by assumption) ?_ ?_) | go_size)))) (Own.sl hO10)).mono ?_; rintro e w11 ⟨rfl, hbw11⟩; obtain ⟨hzw11, hcw11, hfw11⟩ := bfacts hbw11; (try simp at hzw11 hcw11 hfw11); (try (have : w.heap.size < w11.heap.size := by omega)); (try (have : w.heap.size + 1 < w11.heap.size := by omega)); (try (have : w.heap.size + 1 + 1 < w11.heap.size := by omega)); (try (have : w.heap.size + 1 + 1 + 1 < w11.heap.size := by omega))))
  have g11 : Hid (Below w9.heap.size w9 w11) := Lib.hid (by repeat' (first | (with_reducible exact Below.refl _ _) | (with_reducible assumption) | (with_reducible refine Below.alloc ?_ ?_ _) | (with_reducible refine Below.drew ?_) | (with_reducible refine Below.setCell ?_ ?_ _) | (with_reducible refine Below.stepB (by assumption) ?_ ?_) | go_size))
  clear a0 a1 a2 d0 d1 d2 hO10 hbw10 hcw10 hfw10 hbw11 hcw11 hfw11
  have hs11 := g11.out
  have hzs11 := hs11.size
  obtain ⟨-, a0, a1, a2⟩ := (Bx.below H9.out.2.1 hs11 j2).cells
  obtain ⟨-, d0, d1, d2⟩ := (Bx.below H9.out.2.2.2.2.1 hs11 j5).cells
  have f1 : w.heap.size + 1 < w11.heap.size := by omega
  have f2 : w7.heap.size < w11.heap.size := by omega
  go_wp2
  go_region_held3 (fun w' => (w'.cell? ⟨w.heap.size + 1, 0, none⟩ = some (.int .i64 r2) ∧ w'.cell? ⟨w.heap.size + 1, 1, none⟩ = some (.int .i64 cl2) ∧ w'.cell? ⟨w.heap.size + 1, 2, none⟩ = some (.slice A2 n2 c2)) ∧ w'.cell? ⟨w7.heap.size, 0, none⟩ = some (.int .i64 r2) ∧ w'.cell? ⟨w7.heap.size, 1, none⟩ = some (.int .i64 cl2) ∧ w'.cell? ⟨w7.heap.size, 2, none⟩ = some (.slice (some ⟨b7, 0, none⟩) n2 n2)) (first | go_keep | ((try dsimp only); (repeat' apply And.intro) <;> go_keep)) (first
      | (go_at_call 10; refine (HT2.out _ (by repeat' (first | (with_reducible exact Below.refl _ _) | (with_reducible assumption) | (with_reducible refine Below.alloc ?_ ?_ _) | (with_reducible refine Below.drew ?_) | (with_reducible refine Below.setCell ?_ ?_ _) | (with_reducible refine Below.stepB (by assumption) ?_ ?_) | go_size))).mono ?_; rintro e w12 ⟨b12, rfl, hO12, hbw12⟩; obtain ⟨hzw12, hcw12, hfw12⟩ := bfacts hbw12; (try simp at hzw12 hcw12 hfw12); (try (have : w.heap.size < w12.heap.size := by omega)); (try (have : w.heap.size + 1 < w12.heap.size := by omega)); (try (have : w.heap.size + 1 + 1 < w12.heap.size := by omega)); (try (have : w.heap.size + 1 + 1 + 1 < w12.heap.size := by omega)); have g12 : w7.heap.size < w12.heap.size := by omega)
      | (go_at_call 12; refine (HE2.out _ _ _ _ _ (Own.sl (Own.below HO7.out (by have := hT7.out; repeat' (first | (with_reducible exact Below.refl _ _) | (with_reducible assumption) | (with_reducible refine Below.alloc ?_ ?_ _) | (with_reducible refine Below.drew ?_) | (with_reducible refine Below.setCell ?_ ?_ _) | (with_reducible refine Below.stepB (by assumption) ?_ ?_) | go_size)))) (Own.sl hO12)).mono ?_; rintro e w13 ⟨rfl, hbw13⟩; obtain ⟨hzw13, hcw13, hfw13⟩ := bfacts hbw13; (try simp at hzw13 hcw13 hfw13); (try (have : w.heap.size < w13.heap.size := by omega)); (try (have : w.heap.size + 1 < w13.heap.size := by omega)); (try (have : w.heap.size + 1 + 1 < w13.heap.size := by omega)); (try (have : w.heap.size + 1 + 1 + 1 < w13.heap.size := by omega))))
  have g13 : Hid (Below w9.heap.size w9 w13) := Lib.hid (by repeat' (first | (with_reducible exact Below.refl _ _) | (with_reducible assumption) | (with_reducible refine Below.alloc ?_ ?_ _) | (with_reducible refine Below.drew ?_) | (with_reducible refine Below.setCell ?_ ?_ _) | (with_reducible refine Below.stepB (by assumption) ?_ ?_) | go_size))
  clear a0 a1 a2 d0 d1 d2 hO12 hbw12 hcw12 hfw12 hbw13 hcw13 hfw13 hs11
  have hs13 := g13.out
  have hzs13 := hs13.size
  obtain ⟨-, d0, d1, d2⟩ := (Bx.below H9.out.2.2.2.1 hs13 j4).cells
  have HM1 := Lib.hid (fun W (h : OwnI W wc.heap.size (some ⟨b6, 0, none⟩) n L) => markField_any r cl (some ⟨b6, 0, none⟩) n n _ L W h hn 1 (by decide) (by decide))
  go_wp2_with fail
  refine (HM1.out _ (Own.below (Own.more HO6.out (Nat.le_refl _)) (by have := hT6.out; repeat' (first | (with_reducible exact Below.refl _ _) | (with_reducible assumption) | (with_reducible refine Below.alloc ?_ ?_ _) | (with_reducible refine Below.drew ?_) | (with_reducible refine Below.setCell ?_ ?_ _) | (with_reducible refine Below.stepB (by assumption) ?_ ?_) | go_size)))).mono ?_
  rintro e w14 ⟨rfl, -, hk14⟩
  have HK14 := Lib.hid hk14
  have hzw14 := hk14.size
  have g14 : Hid (Below wc.heap.size wc w14) := (hTc.out.trans (hs13.mono (by omega))).trans (hk14.below hXr (Nat.le_refl _) (by omega))
  clear hk14 d0 d1 d2
  obtain ⟨q1, q2, q3, q4, q5, q6⟩ := H9.out
  have b1 := Bx.kept (Bx.below q1 hs13 j1) HK14.out hXr (.inl (by omega))
  have b2 := Bx.kept (Bx.below q2 hs13 j2) HK14.out hXr (.inl (by omega))
  have b3 := Bx.kept (Bx.below q3 hs13 j3) HK14.out hXr (.inl (by omega))
  have b5 := Bx.kept (Bx.below q5 hs13 j5) HK14.out hXr (.inr (by omega))
  have b6' := Bx.kept (Bx.below q6 hs13 j6) HK14.out hXr (.inr (by omega))
  have o7 := Own.kept (Own.below HO7.out ((hT7.out).trans (hs13.mono (by omega)))) HK14.out hYr hXr (.inr (by simp))
  have oG := Own.kept (Own.below HOG.out ((hT8.out).trans (hs13.mono (by omega)))) HK14.out hGr hXr (.inr (by simp; omega))
  have H14 := Lib.hid (And.intro b1 (And.intro b2 (And.intro b3 (And.intro b6' oG))))
  have HO7b := Lib.hid o7
  obtain ⟨-, d0, d1, d2⟩ := b5.cells
  clear q1 q2 q3 q4 q5 q6 b1 b2 b3 b5 b6' o7 oG
  have HM2 := Lib.hid (fun lo W (h : OwnI W lo (some ⟨b7, 0, none⟩) n2 L2) => markField_any r2 cl2 (some ⟨b7, 0, none⟩) n2 n2 lo L2 W h hn2 (1 + n) (by omega) (by omega))
  go_wp2_with fail
  refine (HM2.out _ _ HO7b.out).mono ?_
  rintro e w15 ⟨rfl, -, hk15⟩
  have HK15 := Lib.hid hk15
  have hzw15 := hk15.size
  have hw67 : (w6.alloc (.cells #[.int .i64 r, .int .i64 cl, .slice (some ⟨b6, 0, none⟩) n n] 27)).heap.size = w6.heap.size + 1 := by simp
  have g15 : Hid (Below wc.heap.size wc w15) := g14.out.trans (hk15.below hYr (by omega) (by omega))
  clear hk15 d0 d1 d2
  obtain ⟨q1, q2, q3, q6, oG⟩ := H14.out
  have b1 := Bx.kept q1 HK15.out hYr (.inl (by omega))
  have b2 := Bx.kept q2 HK15.out hYr (.inl (by omega))
  have b3 := Bx.kept q3 HK15.out hYr (.inl (by omega))
  have b6' := Bx.kept q6 HK15.out hYr (.inr (by omega))
  have oG' := Own.kept oG HK15.out hGr hYr (.inr (by simp))
  obtain ⟨-, d0, d1, d2⟩ := b6'.cells
  obtain ⟨-, z0, z1, z2⟩ := b3.cells
  have H15 := Lib.hid (And.intro b1 (And.intro b2 (And.intro b3 (And.intro b6' oG'))))
  clear q1 q2 q3 q6 oG b1 b2 b3 b6' oG'
  have hle15 : (0 : Int) ≤ 1 + n + n2 := by omega
  have hlt15 : ¬ (1 + (n : Int) + n2 < 0) := by omega
  go_wp2_with fail
  refine (eqField_same R C _ _ _ _ _ _ _ (Own.sl H15.out.2.2.2.2) (Own.sl (Own.below HOW.out g15.out)) HR.out).mono ?_
  rintro e w16 ⟨rfl, hbw16⟩
  have hzw16 := hbw16.size
  have g16 : Hid (Below wc.heap.size wc w16) := g15.out.trans (hbw16.mono (by omega))
  obtain ⟨q1, q2, q3, q6, oG⟩ := H15.out
  have b1 := Bx.below q1 hbw16 q1.cells.1
  have b2 := Bx.below q2 hbw16 q2.cells.1
  have b3 := Bx.below q3 hbw16 q3.cells.1
  have b6' := Bx.below q6 hbw16 q6.cells.1
  have oG' := Own.below oG hbw16
  clear d0 d1 d2 z0 z1 z2 hbw16
  obtain ⟨-, d0, d1, d2⟩ := b6'.cells
  have H16 := Lib.hid (And.intro b1 (And.intro b2 (And.intro b3 (And.intro b6' oG'))))
  clear q1 q2 q3 q6 oG b1 b2 b3 b6' oG'
  go_wp2_with fail
  refine (markField_any R C _ _ _ _ _ _ H16.out.2.2.2.2 HR.out 1 (by decide) (by decide)).mono ?_
  rintro e w17 ⟨rfl, oM, hk17⟩
  have HK17 := Lib.hid hk17
  have HOM := Lib.hid oM
  have hzw17 := hk17.size
  have hw78 : (w7.alloc (.cells #[.int .i64 r2, .int .i64 cl2, .slice (some ⟨b7, 0, none⟩) n2 n2] 27)).heap.size = w7.heap.size + 1 := by simp
  have g17 : Hid (Below wc.heap.size wc w17) := g16.out.trans (hk17.below hGr (by omega) (by omega))
  obtain ⟨q1, q2, q3, q6, oG⟩ := H16.out
  have b1 := Bx.kept q1 HK17.out hGr (.inl (by omega))
  have b2 := Bx.kept q2 HK17.out hGr (.inl (by omega))
  have b3 := Bx.kept q3 HK17.out hGr (.inl (by omega))
  have b6' := Bx.kept q6 HK17.out hGr (.inr (by omega))
  clear d0 d1 d2 hk17 oM
  obtain ⟨-, d0, d1, d2⟩ := b6'.cells
  have H17 := Lib.hid (And.intro b1 (And.intro b2 (And.intro b3 b6')))
  clear q1 q2 q3 q6 oG b1 b2 b3 b6'
  go_wp2_with fail
  refine (heldField_any R C _ _ _ _ 1 (Own.sl HOM.out) HR.out (by decide) (by decide)).mono ?_
  rintro e w18 ⟨rfl, hbw18⟩
  have hzw18 := hbw18.size
  have g18 : Hid (Below wc.heap.size wc w18) := g17.out.trans (hbw18.mono (by omega))
  obtain ⟨q1, q2, q3, q6⟩ := H17.out
  have b1 := Bx.below q1 hbw18 q1.cells.1
  have b2 := Bx.below q2 hbw18 q2.cells.1
  have b3 := Bx.below q3 hbw18 q3.cells.1
  have b6' := Bx.below q6 hbw18 q6.cells.1
  have HOM18 := Lib.hid (Own.below HOM.out hbw18)
  clear d0 d1 d2 hbw18
  obtain ⟨-, a0, a1, a2⟩ := b1.cells
  obtain ⟨-, y0, y1, y2⟩ := b2.cells
  have m1 := b1.cells.1
  have m2 := b2.cells.1
  have m3 := b3.cells.1
  have m6 := b6'.cells.1
  have H18 := Lib.hid (And.intro b3 b6')
  clear q1 q2 q3 q6 b1 b2 b3 b6'
  have hS18 : Below w.heap.size w w18 := HBC.out.trans (g18.out.mono (by omega))
  have hlt18 : ¬ (1 + (M.length : Int) < 0) := by omega
  clear hzw14 hzw15 hzw16 hzw17
  go_upto_region 31 with fail
  go_cut [15, 16] (fun v15 v16 wx => ∃ (g15 : Nat) (Ah : Option Addr) (ch : Nat), v15 = .pointer (some ⟨g15, 0, none⟩) ∧ v16 = .bool ok ∧ w18.heap.size ≤ g15 ∧ Bx wx g15 27 R C Ah M.length ch ∧ OwnI wx w18.heap.size Ah M.length (fun i => M.getD i 0) ∧ Below w18.heap.size w18 wx)
  case first =>
    have hp2 : ¬ w.heap.size = w18.heap.size := by omega
    have hq2 : ¬ w18.heap.size = w.heap.size := by omega
    have hr2 : ¬ w.heap.size + 1 = w18.heap.size := by omega
    have hs2 : ¬ w18.heap.size = w.heap.size + 1 := by omega
    go_region_law (first
      | (go_simp; go_at_call 10; with_reducible refine (HT1.out _ (by repeat' (first | (with_reducible exact Below.refl _ _) | (with_reducible assumption) | (with_reducible refine Below.alloc ?_ ?_ _) | (with_reducible refine Below.drew ?_) | (with_reducible refine Below.setCell ?_ ?_ _) | (with_reducible refine Below.stepB (by assumption) ?_ ?_) | go_size))).mono ?_; rintro e w19 ⟨b3, rfl, hO3, hbw19⟩; obtain ⟨hzw19, hcw19, hfw19⟩ := bfacts hbw19; (try simp at hzw19 hcw19 hfw19); (try (have : w.heap.size < w19.heap.size := by omega)); (try (have : w.heap.size + 1 < w19.heap.size := by omega)); (try (have : w.heap.size + 1 + 1 < w19.heap.size := by omega)); (try (have : w.heap.size + 1 + 1 + 1 < w19.heap.size := by omega)); have hl3 : w.heap.size + 1 < w19.heap.size := (by omega); have hm3 : w.heap.size < w19.heap.size + 1 := (by omega); have hn3 : w.heap.size ≤ w19.heap.size := (by omega); have ho3 : w.heap.size + 1 < w19.heap.size + 1 := (by omega); (try (have ht23 : w18.heap.size < w19.heap.size := (by omega))); (try (have hu23 : w18.heap.size < w19.heap.size + 1 := (by omega))); have hp3 : ¬ w.heap.size = w19.heap.size := (by omega); have hq3 : ¬ w19.heap.size = w.heap.size := (by omega); have hr3 : ¬ w.heap.size + 1 = w19.heap.size := (by omega); have hs3 : ¬ w19.heap.size = w.heap.size + 1 := (by omega))
      | (go_simp; go_at_call 10; with_reducible refine (HT2.out _ (by repeat' (first | (with_reducible exact Below.refl _ _) | (with_reducible assumption) | (with_reducible refine Below.alloc ?_ ?_ _) | (with_reducible refine Below.drew ?_) | (with_reducible refine Below.setCell ?_ ?_ _) | (with_reducible refine Below.stepB (by assumption) ?_ ?_) | go_size))).mono ?_; rintro e w20 ⟨b4, rfl, hO4, hbw20⟩; obtain ⟨hzw20, hcw20, hfw20⟩ := bfacts hbw20; (try simp at hzw20 hcw20 hfw20); (try (have : w.heap.size < w20.heap.size := by omega)); (try (have : w.heap.size + 1 < w20.heap.size := by omega)); (try (have : w.heap.size + 1 + 1 < w20.heap.size := by omega)); (try (have : w.heap.size + 1 + 1 + 1 < w20.heap.size := by omega)); have hl4 : w.heap.size + 1 < w20.heap.size := (by omega); have hm4 : w.heap.size < w20.heap.size + 1 := (by omega); have hn4 : w.heap.size ≤ w20.heap.size := (by omega); have ho4 : w.heap.size + 1 < w20.heap.size + 1 := (by omega); (try (have ht24 : w18.heap.size < w20.heap.size := (by omega))); (try (have hu24 : w18.heap.size < w20.heap.size + 1 := (by omega))); (try (have ht34 : w19.heap.size < w20.heap.size := (by omega))); (try (have hu34 : w19.heap.size < w20.heap.size + 1 := (by omega))); have hp4 : ¬ w.heap.size = w20.heap.size := (by omega); have hq4 : ¬ w20.heap.size = w.heap.size := (by omega); have hr4 : ¬ w.heap.size + 1 = w20.heap.size := (by omega); have hs4 : ¬ w20.heap.size = w.heap.size + 1 := (by omega))
      | (go_simp; go_at_call 18; refine (HIM.out _ _ _ (Own.sl (Own.below hO3 (by repeat' (first | (with_reducible exact Below.refl _ _) | (with_reducible assumption) | (with_reducible refine Below.alloc ?_ ?_ _) | (with_reducible refine Below.drew ?_) | (with_reducible refine Below.setCell ?_ ?_ _) | (with_reducible refine Below.stepB (by assumption) ?_ ?_) | go_size)))) (Own.sl (Own.below hO4 (by repeat' (first | (with_reducible exact Below.refl _ _) | (with_reducible assumption) | (with_reducible refine Below.alloc ?_ ?_ _) | (with_reducible refine Below.drew ?_) | (with_reducible refine Below.setCell ?_ ?_ _) | (with_reducible refine Below.stepB (by assumption) ?_ ?_) | go_size))))).mono ?_; rintro e w21 ⟨Ah, ch, rfl, OH, hbw21⟩; obtain ⟨hzw21, hcw21, hfw21⟩ := bfacts hbw21; (try simp at hzw21 hcw21 hfw21); (try (have : w.heap.size < w21.heap.size := by omega)); (try (have : w.heap.size + 1 < w21.heap.size := by omega)); (try (have : w.heap.size + 1 + 1 < w21.heap.size := by omega)); (try (have : w.heap.size + 1 + 1 + 1 < w21.heap.size := by omega)); have hl5 : w.heap.size + 1 < w21.heap.size := (by omega); have hm5 : w.heap.size < w21.heap.size + 1 := (by omega); have hn5 : w.heap.size ≤ w21.heap.size := (by omega); have ho5 : w.heap.size + 1 < w21.heap.size + 1 := (by omega); (try (have ht25 : w18.heap.size < w21.heap.size := (by omega))); (try (have hu25 : w18.heap.size < w21.heap.size + 1 := (by omega))); (try (have ht35 : w19.heap.size < w21.heap.size := (by omega))); (try (have hu35 : w19.heap.size < w21.heap.size + 1 := (by omega))); (try (have ht45 : w20.heap.size < w21.heap.size := (by omega))); (try (have hu45 : w20.heap.size < w21.heap.size + 1 := (by omega))); have hp5 : ¬ w.heap.size = w21.heap.size := (by omega); have hq5 : ¬ w21.heap.size = w.heap.size := (by omega); have hr5 : ¬ w.heap.size + 1 = w21.heap.size := (by omega); have hs5 : ¬ w21.heap.size = w.heap.size + 1 := (by omega)))
    all_goals (go_wp2_with fail; go_meet)
    all_goals refine ⟨_, Ah, ch, rfl, rfl, ?_⟩
    all_goals first
      | (with_reducible refine reg_new ?_ OH ?_) 
      | (with_reducible refine reg_old ?_ ?_ ?_ OH ?_ ?_)
    all_goals first
      | omega
      | (simp; omega)
      | (simp; done)
      | exact (blk_new w20 _ _ rfl).below hbw21 (by simp)
      | exact ((blk_new w19 _ _ rfl).below hbw20 (by simp)).below hbw21 (by omega)
      | exact (((Blk.drew (blk_new w18 _ _ rfl)).below hbw19 (by simp)).below hbw20 (by omega)).below hbw21 (by omega)
      | (repeat' (first | (with_reducible exact Below.refl _ _) | (with_reducible assumption) | (with_reducible refine Below.alloc ?_ ?_ _) | (with_reducible refine Below.drew ?_) | (with_reducible refine Below.setCell ?_ ?_ _) | (with_reducible refine Below.stepB (by assumption) ?_ ?_) | go_size))
  obtain ⟨g15', Ah, ch, rfl, rfl, hg15, hX15, OH, hbd⟩ := hcut
  have hzd := hbd.size
  obtain ⟨-, z0, z1, z2⟩ := hX15.cells
  have hbd18 := Lib.hid hbd
  obtain ⟨q3, q6⟩ := H18.out
  have e3 := Bx.below q3 hbd m3
  have e6 := Bx.below q6 hbd m6
  obtain ⟨le3, x0, x1, x2⟩ := e3.cells
  obtain ⟨le6, d0', d1', d2'⟩ := e6.cells
  have HOH := Lib.hid OH
  have hgs := g18.out.size
  have g19 := Lib.hid (g18.out.trans (hbd.mono (by omega)))
  have hS19 : Below w.heap.size w wc := hS18.trans (hbd.mono (by omega))
  clear hS18 q3 q6 e3 e6 OH hbd
  go_wp2_with fail
  refine (eqField_same R C _ _ _ _ _ _ _ (Own.sl HOH.out) (Own.sl (Own.below HOW.out g19.out)) HR.out).mono ?_
  rintro e w23 ⟨rfl, hbw23⟩
  obtain ⟨hzw23, hcw23, hfw23⟩ := bfacts hbw23; (try simp at hzw23 hcw23 hfw23); (try (have : w.heap.size < w23.heap.size := by omega)); (try (have : w.heap.size + 1 < w23.heap.size := by omega)); (try (have : w.heap.size + 1 + 1 < w23.heap.size := by omega)); (try (have : w.heap.size + 1 + 1 + 1 < w23.heap.size := by omega))
  have lg23 : w8.heap.size < w23.heap.size := by omega
  go_wp2_with fail
  refine (heldField_any R C _ _ _ _ 1 (Own.sl (Own.below HOM18.out (hbd18.out.trans (hbw23.mono (by omega))))) HR.out (by decide) (by decide)).mono ?_
  rintro e w24 ⟨rfl, hbw24⟩
  go_wp2
  go_ret
  exact ⟨rfl, by repeat' (first | (with_reducible exact Below.refl _ _) | (with_reducible assumption) | (with_reducible refine Below.alloc ?_ ?_ _) | (with_reducible refine Below.drew ?_) | (with_reducible refine Below.setCell ?_ ?_ _) | (with_reducible refine Below.stepB (by assumption) ?_ ?_) | go_size)⟩
end Go.Proofs.Ytepibbjcmjabiaa
