/- Contracts of the functions that merge two fields. -/
import Derived.Test.YtepibbjcmjabiaaFieldE
import Derived.Test.YtepibbjcmjabiaaStepAway
namespace Go.Proofs.Ytepibbjcmjabiaa
open Go.RowKit
/-- a field of one's own, and a yes or no -/
def FieldOut (w : World) (R C : Int) (L : List Int) (ok : Bool) (e : Ending) (w' : World) : Prop :=
  ∃ A' c', e = .returned (.tuple #[.agg #[.int .i64 R, .int .i64 C, .slice A' L.length c'], .bool ok]) ∧ OwnI w' w.heap.size A' L.length (fun i => L.getD i 0) ∧ Below w.heap.size w w'
theorem FieldOut.none {w w' : World} (hb : Below w.heap.size w w') : FieldOut w 0 0 [] false (.returned (.tuple #[.agg #[.int .i64 0, .int .i64 0, .slice none 0 0], .bool false])) w' :=
  ⟨_, _, rfl, fun h => absurd h (by simp), hb⟩
theorem FieldOut.row {w w' : World} {base : Nat} {t : TypeId} {A : Option Addr} {c : Nat} {R C : Int} {L : List Int} (hO : w'.ownsRow base t 1 (.slice A L.length c) L.length (L.map (Value.int .i64)))
    (hB : w.heap.size ≤ base) (hb : Below w.heap.size w w') : FieldOut w R C L true (.returned (.tuple #[.agg #[.int .i64 R, .int .i64 C, .slice A L.length c], .bool true])) w' :=
  ⟨_, _, rfl, (ownI_of rfl hO).more hB, hb⟩
theorem ownsRow_setBelow {w : World} {base : Nat} {e : TypeId} {k : Nat} {v : Value} {n : Nat} {xs : List Value} {p : Addr} {u : Value} (h : w.ownsRow base e k v n xs) (h1 : p.block < base) :
    (w.setCell p u).ownsRow base e k v n xs := by
  obtain ⟨h0, h3⟩ := h
  refine ⟨h0, ?_⟩
  rcases h3 with h3 | ⟨g, cap, cur, a, b, c, d⟩
  · exact .inl h3
  · exact .inr ⟨g, cap, cur, a, b, (Below.heap_setCell w p u g (by omega)).trans c, d⟩
def mergeL (L1 L2 : Nat → Int) (n : Nat) : List Int := pick (fun _ => true) (fun i => if L2 i < L1 i then L2 i else L1 i) n
theorem mergeL_snoc (L1 L2 : Nat → Int) (k : Nat) : mergeL L1 L2 (k + 1) = mergeL L1 L2 k ++ [if L2 k < L1 k then L2 k else L1 k] := pick_hit rfl
def mergeB (r cl : Int) (n : Nat) (L1 : Nat → Int) (r2 cl2 : Int) (n2 : Nat) (L2 : Nat → Int) : Bool := okF r cl n L1 && (okF r2 cl2 n2 L2 && (decide (r = r2) && decide (cl = cl2)))
theorem MergeFields_no (r cl : Int) (A : Option Addr) (n c : Nat) (L1 : Nat → Int) (r2 cl2 : Int) (A2 : Option Addr) (n2 c2 : Nat) (L2 : Nat → Int) (w : World) (hS : SlI w A n L1) (hS2 : SlI w A2 n2 L2) (hn : n ≤ 1048576) (hn2 : n2 ≤ 1048576)
    (h : mergeB r cl n L1 r2 cl2 n2 L2 = false) : Calls Try.prog 18 #[.agg #[.int .i64 r, .int .i64 cl, .slice A n c], .agg #[.int .i64 r2, .int .i64 cl2, .slice A2 n2 c2]] w
    fun e w' => FieldOut w 0 0 [] false e w' := by
  have h1 := fun W (hb : Below w.heap.size w W) => IsField_any r cl A n c L1 W (hS.below hb) hn
  have h2 := fun W (hb : Below w.heap.size w W) => IsField_any r2 cl2 A2 n2 c2 L2 W (hS2.below hb) hn2
  unfold mergeB at h
  generalize okF r cl n L1 = q1 at h h1
  generalize okF r2 cl2 n2 L2 = q2 at h h2
  have H1 := Lib.hid h1
  have H2 := Lib.hid h2
  clear hS hS2 h1 h2
  have fin : ∀ (W : World), Below w.heap.size w W → Blk W (w.heap.size + 2) 27 #[.int .i64 0, .int .i64 0, .slice none 0 0] → True := fun _ _ _ => trivial
  cases q1
  · clear h
    go_enter Try.func18, Try.ntmps18
    go_wp2_with fail
    refine (H1.out _ (by repeat' (first | (with_reducible exact Below.refl _ _) | (with_reducible assumption) | (with_reducible refine Below.alloc ?_ ?_ _) | (with_reducible refine Below.drew ?_) | (with_reducible refine Below.setCell ?_ ?_ _) | (with_reducible refine Below.stepB (by assumption) ?_ ?_) | go_size))).mono ?_
    rintro e w1 ⟨rfl, hbw1⟩
    obtain ⟨hzw1, hcw1, hfw1⟩ := bfacts hbw1; (try simp at hzw1 hcw1 hfw1); (try (have : w.heap.size < w1.heap.size := by omega)); (try (have : w.heap.size + 1 < w1.heap.size := by omega)); (try (have : w.heap.size + 1 + 1 < w1.heap.size := by omega)); (try (have : w.heap.size + 1 + 1 + 1 < w1.heap.size := by omega))
    have hB1 : Blk w1 (w.heap.size + 2) 27 #[.int .i64 0, .int .i64 0, .slice none 0 0] := (blk_new _ 27 _ (by simp)).below hbw1 (by simp)
    have d0 := hB1.cell 0
    have d1 := hB1.cell 1
    have d2 := hB1.cell 2
    simp only [List.getElem?_toArray] at d0 d1 d2
    clear hB1 hcw1
    go_wp2
    refine bodyPost_ret (by simp [results, Try.results18, go_sem, d0, d1, d2]; try rfl) rfl ?_
    exact FieldOut.none (by repeat' (first | (with_reducible exact Below.refl _ _) | (with_reducible assumption) | (with_reducible refine Below.alloc ?_ ?_ _) | (with_reducible refine Below.drew ?_) | (with_reducible refine Below.setCell ?_ ?_ _) | (with_reducible refine Below.stepB (by assumption) ?_ ?_) | go_size))
  · cases q2
    · clear h
      go_enter Try.func18, Try.ntmps18
      go_wp2_with fail
      refine (H1.out _ (by repeat' (first | (with_reducible exact Below.refl _ _) | (with_reducible assumption) | (with_reducible refine Below.alloc ?_ ?_ _) | (with_reducible refine Below.drew ?_) | (with_reducible refine Below.setCell ?_ ?_ _) | (with_reducible refine Below.stepB (by assumption) ?_ ?_) | go_size))).mono ?_
      rintro e w1 ⟨rfl, hbw1⟩
      obtain ⟨hzw1, hcw1, hfw1⟩ := bfacts hbw1; (try simp at hzw1 hcw1 hfw1); (try (have : w.heap.size < w1.heap.size := by omega)); (try (have : w.heap.size + 1 < w1.heap.size := by omega)); (try (have : w.heap.size + 1 + 1 < w1.heap.size := by omega)); (try (have : w.heap.size + 1 + 1 + 1 < w1.heap.size := by omega))
      go_wp2_with fail
      refine (H2.out _ (by repeat' (first | (with_reducible exact Below.refl _ _) | (with_reducible assumption) | (with_reducible refine Below.alloc ?_ ?_ _) | (with_reducible refine Below.drew ?_) | (with_reducible refine Below.setCell ?_ ?_ _) | (with_reducible refine Below.stepB (by assumption) ?_ ?_) | go_size))).mono ?_
      rintro e w2 ⟨rfl, hbw2⟩
      obtain ⟨hzw2, hcw2, hfw2⟩ := bfacts hbw2; (try simp at hzw2 hcw2 hfw2); (try (have : w.heap.size < w2.heap.size := by omega)); (try (have : w.heap.size + 1 < w2.heap.size := by omega)); (try (have : w.heap.size + 1 + 1 < w2.heap.size := by omega)); (try (have : w.heap.size + 1 + 1 + 1 < w2.heap.size := by omega))
      have hB1 : Blk w2 (w.heap.size + 2) 27 #[.int .i64 0, .int .i64 0, .slice none 0 0] := ((blk_new _ 27 _ (by simp)).below hbw1 (by simp)).below hbw2 (by omega)
      have d0 := hB1.cell 0
      have d1 := hB1.cell 1
      have d2 := hB1.cell 2
      simp only [List.getElem?_toArray] at d0 d1 d2
      clear hB1 hcw1 hcw2
      go_wp2
      refine bodyPost_ret (by simp [results, Try.results18, go_sem, d0, d1, d2]; try rfl) rfl ?_
      exact FieldOut.none (by repeat' (first | (with_reducible exact Below.refl _ _) | (with_reducible assumption) | (with_reducible refine Below.alloc ?_ ?_ _) | (with_reducible refine Below.drew ?_) | (with_reducible refine Below.setCell ?_ ?_ _) | (with_reducible refine Below.stepB (by assumption) ?_ ?_) | go_size))
    · by_cases hr : r = r2
      · subst hr
        have hc : cl ≠ cl2 := by simpa using h
        clear h
        go_enter Try.func18, Try.ntmps18
        go_wp2_with fail
        refine (H1.out _ (by repeat' (first | (with_reducible exact Below.refl _ _) | (with_reducible assumption) | (with_reducible refine Below.alloc ?_ ?_ _) | (with_reducible refine Below.drew ?_) | (with_reducible refine Below.setCell ?_ ?_ _) | (with_reducible refine Below.stepB (by assumption) ?_ ?_) | go_size))).mono ?_
        rintro e w1 ⟨rfl, hbw1⟩
        obtain ⟨hzw1, hcw1, hfw1⟩ := bfacts hbw1; (try simp at hzw1 hcw1 hfw1); (try (have : w.heap.size < w1.heap.size := by omega)); (try (have : w.heap.size + 1 < w1.heap.size := by omega)); (try (have : w.heap.size + 1 + 1 < w1.heap.size := by omega)); (try (have : w.heap.size + 1 + 1 + 1 < w1.heap.size := by omega))
        go_wp2_with fail
        refine (H2.out _ (by repeat' (first | (with_reducible exact Below.refl _ _) | (with_reducible assumption) | (with_reducible refine Below.alloc ?_ ?_ _) | (with_reducible refine Below.drew ?_) | (with_reducible refine Below.setCell ?_ ?_ _) | (with_reducible refine Below.stepB (by assumption) ?_ ?_) | go_size))).mono ?_
        rintro e w2 ⟨rfl, hbw2⟩
        obtain ⟨hzw2, hcw2, hfw2⟩ := bfacts hbw2; (try simp at hzw2 hcw2 hfw2); (try (have : w.heap.size < w2.heap.size := by omega)); (try (have : w.heap.size + 1 < w2.heap.size := by omega)); (try (have : w.heap.size + 1 + 1 < w2.heap.size := by omega)); (try (have : w.heap.size + 1 + 1 + 1 < w2.heap.size := by omega))
        have hB1 : Blk w2 (w.heap.size + 2) 27 #[.int .i64 0, .int .i64 0, .slice none 0 0] := ((blk_new _ 27 _ (by simp)).below hbw1 (by simp)).below hbw2 (by omega)
        have d0 := hB1.cell 0
        have d1 := hB1.cell 1
        have d2 := hB1.cell 2
        simp only [List.getElem?_toArray] at d0 d1 d2
        clear hB1
        go_wp2
        refine bodyPost_ret (by simp [results, Try.results18, go_sem, d0, d1, d2]; try rfl) rfl ?_
        exact FieldOut.none (by repeat' (first | (with_reducible exact Below.refl _ _) | (with_reducible assumption) | (with_reducible refine Below.alloc ?_ ?_ _) | (with_reducible refine Below.drew ?_) | (with_reducible refine Below.setCell ?_ ?_ _) | (with_reducible refine Below.stepB (by assumption) ?_ ?_) | go_size))
      · clear h
        go_enter Try.func18, Try.ntmps18
        go_wp2_with fail
        refine (H1.out _ (by repeat' (first | (with_reducible exact Below.refl _ _) | (with_reducible assumption) | (with_reducible refine Below.alloc ?_ ?_ _) | (with_reducible refine Below.drew ?_) | (with_reducible refine Below.setCell ?_ ?_ _) | (with_reducible refine Below.stepB (by assumption) ?_ ?_) | go_size))).mono ?_
        rintro e w1 ⟨rfl, hbw1⟩
        obtain ⟨hzw1, hcw1, hfw1⟩ := bfacts hbw1; (try simp at hzw1 hcw1 hfw1); (try (have : w.heap.size < w1.heap.size := by omega)); (try (have : w.heap.size + 1 < w1.heap.size := by omega)); (try (have : w.heap.size + 1 + 1 < w1.heap.size := by omega)); (try (have : w.heap.size + 1 + 1 + 1 < w1.heap.size := by omega))
        go_wp2_with fail
        refine (H2.out _ (by repeat' (first | (with_reducible exact Below.refl _ _) | (with_reducible assumption) | (with_reducible refine Below.alloc ?_ ?_ _) | (with_reducible refine Below.drew ?_) | (with_reducible refine Below.setCell ?_ ?_ _) | (with_reducible refine Below.stepB (by assumption) ?_ ?_) | go_size))).mono ?_
        rintro e w2 ⟨rfl, hbw2⟩
        obtain ⟨hzw2, hcw2, hfw2⟩ := bfacts hbw2; (try simp at hzw2 hcw2 hfw2); (try (have : w.heap.size < w2.heap.size := by omega)); (try (have : w.heap.size + 1 < w2.heap.size := by omega)); (try (have : w.heap.size + 1 + 1 < w2.heap.size := by omega)); (try (have : w.heap.size + 1 + 1 + 1 < w2.heap.size := by omega))
        have hB1 : Blk w2 (w.heap.size + 2) 27 #[.int .i64 0, .int .i64 0, .slice none 0 0] := ((blk_new _ 27 _ (by simp)).below hbw1 (by simp)).below hbw2 (by omega)
        have d0 := hB1.cell 0
        have d1 := hB1.cell 1
        have d2 := hB1.cell 2
        simp only [List.getElem?_toArray] at d0 d1 d2
        clear hB1
        go_wp2
        refine bodyPost_ret (by simp [results, Try.results18, go_sem, d0, d1, d2]; try rfl) rfl ?_
        exact FieldOut.none (by repeat' (first | (with_reducible exact Below.refl _ _) | (with_reducible assumption) | (with_reducible refine Below.alloc ?_ ?_ _) | (with_reducible refine Below.drew ?_) | (with_reducible refine Below.setCell ?_ ?_ _) | (with_reducible refine Below.stepB (by assumption) ?_ ?_) | go_size))
theorem specMerge_no (r cl : Int) (A : Option Addr) (n c : Nat) (L1 : Nat → Int) (r2 cl2 : Int) (A2 : Option Addr) (n2 c2 : Nat) (L2 : Nat → Int) (w : World) (hS : SlI w A n L1) (hS2 : SlI w A2 n2 L2) (hn : n ≤ 1048576) (hn2 : n2 ≤ 1048576)
    (h : mergeB r cl n L1 r2 cl2 n2 L2 = false) : Calls Try.prog 17 #[.agg #[.int .i64 r, .int .i64 cl, .slice A n c], .agg #[.int .i64 r2, .int .i64 cl2, .slice A2 n2 c2]] w
    fun e w' => FieldOut w 0 0 [] false e w' := by
  have h1 := fun W (hb : Below w.heap.size w W) => l19Good_any r cl A n c L1 W (hS.below hb) hn
  have h2 := fun W (hb : Below w.heap.size w W) => l19Good_any r2 cl2 A2 n2 c2 L2 W (hS2.below hb) hn2
  unfold mergeB at h
  generalize okF r cl n L1 = q1 at h h1
  generalize okF r2 cl2 n2 L2 = q2 at h h2
  have H1 := Lib.hid h1
  have H2 := Lib.hid h2
  clear hS hS2 h1 h2
  have fin : ∀ (W : World), Below w.heap.size w W → Blk W (w.heap.size + 2) 27 #[.int .i64 0, .int .i64 0, .slice none 0 0] → True := fun _ _ _ => trivial
  cases q1
  · clear h
    go_enter Try.func17, Try.ntmps17
    go_wp2_with fail
    refine (H1.out _ (by repeat' (first | (with_reducible exact Below.refl _ _) | (with_reducible assumption) | (with_reducible refine Below.alloc ?_ ?_ _) | (with_reducible refine Below.drew ?_) | (with_reducible refine Below.setCell ?_ ?_ _) | (with_reducible refine Below.stepB (by assumption) ?_ ?_) | go_size))).mono ?_
    rintro e w1 ⟨rfl, hbw1⟩
    obtain ⟨hzw1, hcw1, hfw1⟩ := bfacts hbw1; (try simp at hzw1 hcw1 hfw1); (try (have : w.heap.size < w1.heap.size := by omega)); (try (have : w.heap.size + 1 < w1.heap.size := by omega)); (try (have : w.heap.size + 1 + 1 < w1.heap.size := by omega)); (try (have : w.heap.size + 1 + 1 + 1 < w1.heap.size := by omega))
    have hB1 : Blk w1 (w.heap.size + 2) 27 #[.int .i64 0, .int .i64 0, .slice none 0 0] := (blk_new _ 27 _ (by simp)).below hbw1 (by simp)
    have d0 := hB1.cell 0
    have d1 := hB1.cell 1
    have d2 := hB1.cell 2
    simp only [List.getElem?_toArray] at d0 d1 d2
    clear hB1 hcw1
    go_wp2
    refine bodyPost_ret (by simp [results, Try.results17, go_sem, d0, d1, d2]; try rfl) rfl ?_
    exact FieldOut.none (by repeat' (first | (with_reducible exact Below.refl _ _) | (with_reducible assumption) | (with_reducible refine Below.alloc ?_ ?_ _) | (with_reducible refine Below.drew ?_) | (with_reducible refine Below.setCell ?_ ?_ _) | (with_reducible refine Below.stepB (by assumption) ?_ ?_) | go_size))
  · cases q2
    · clear h
      go_enter Try.func17, Try.ntmps17
      go_wp2_with fail
      refine (H1.out _ (by repeat' (first | (with_reducible exact Below.refl _ _) | (with_reducible assumption) | (with_reducible refine Below.alloc ?_ ?_ _) | (with_reducible refine Below.drew ?_) | (with_reducible refine Below.setCell ?_ ?_ _) | (with_reducible refine Below.stepB (by assumption) ?_ ?_) | go_size))).mono ?_
      rintro e w1 ⟨rfl, hbw1⟩
      obtain ⟨hzw1, hcw1, hfw1⟩ := bfacts hbw1; (try simp at hzw1 hcw1 hfw1); (try (have : w.heap.size < w1.heap.size := by omega)); (try (have : w.heap.size + 1 < w1.heap.size := by omega)); (try (have : w.heap.size + 1 + 1 < w1.heap.size := by omega)); (try (have : w.heap.size + 1 + 1 + 1 < w1.heap.size := by omega))
      go_wp2_with fail
      refine (H2.out _ (by repeat' (first | (with_reducible exact Below.refl _ _) | (with_reducible assumption) | (with_reducible refine Below.alloc ?_ ?_ _) | (with_reducible refine Below.drew ?_) | (with_reducible refine Below.setCell ?_ ?_ _) | (with_reducible refine Below.stepB (by assumption) ?_ ?_) | go_size))).mono ?_
      rintro e w2 ⟨rfl, hbw2⟩
      obtain ⟨hzw2, hcw2, hfw2⟩ := bfacts hbw2; (try simp at hzw2 hcw2 hfw2); (try (have : w.heap.size < w2.heap.size := by omega)); (try (have : w.heap.size + 1 < w2.heap.size := by omega)); (try (have : w.heap.size + 1 + 1 < w2.heap.size := by omega)); (try (have : w.heap.size + 1 + 1 + 1 < w2.heap.size := by omega))
      have hB1 : Blk w2 (w.heap.size + 2) 27 #[.int .i64 0, .int .i64 0, .slice none 0 0] := ((blk_new _ 27 _ (by simp)).below hbw1 (by simp)).below hbw2 (by omega)
      have d0 := hB1.cell 0
      have d1 := hB1.cell 1
      have d2 := hB1.cell 2
      simp only [List.getElem?_toArray] at d0 d1 d2
      clear hB1 hcw1 hcw2
      go_wp2
      refine bodyPost_ret (by simp [results, Try.results17, go_sem, d0, d1, d2]; try rfl) rfl ?_
      exact FieldOut.none (by repeat' (first | (with_reducible exact Below.refl _ _) | (with_reducible assumption) | (with_reducible refine Below.alloc ?_ ?_ _) | (with_reducible refine Below.drew ?_) | (with_reducible refine Below.setCell ?_ ?_ _) | (with_reducible refine Below.stepB (by assumption) ?_ ?_) | go_size))
    · by_cases hr : r = r2
      · subst hr
        have hc : cl ≠ cl2 := by simpa using h
        clear h
        go_enter Try.func17, Try.ntmps17
        go_wp2_with fail
        refine (H1.out _ (by repeat' (first | (with_reducible exact Below.refl _ _) | (with_reducible assumption) | (with_reducible refine Below.alloc ?_ ?_ _) | (with_reducible refine Below.drew ?_) | (with_reducible refine Below.setCell ?_ ?_ _) | (with_reducible refine Below.stepB (by assumption) ?_ ?_) | go_size))).mono ?_
        rintro e w1 ⟨rfl, hbw1⟩
        obtain ⟨hzw1, hcw1, hfw1⟩ := bfacts hbw1; (try simp at hzw1 hcw1 hfw1); (try (have : w.heap.size < w1.heap.size := by omega)); (try (have : w.heap.size + 1 < w1.heap.size := by omega)); (try (have : w.heap.size + 1 + 1 < w1.heap.size := by omega)); (try (have : w.heap.size + 1 + 1 + 1 < w1.heap.size := by omega))
        go_wp2_with fail
        refine (H2.out _ (by repeat' (first | (with_reducible exact Below.refl _ _) | (with_reducible assumption) | (with_reducible refine Below.alloc ?_ ?_ _) | (with_reducible refine Below.drew ?_) | (with_reducible refine Below.setCell ?_ ?_ _) | (with_reducible refine Below.stepB (by assumption) ?_ ?_) | go_size))).mono ?_
        rintro e w2 ⟨rfl, hbw2⟩
        obtain ⟨hzw2, hcw2, hfw2⟩ := bfacts hbw2; (try simp at hzw2 hcw2 hfw2); (try (have : w.heap.size < w2.heap.size := by omega)); (try (have : w.heap.size + 1 < w2.heap.size := by omega)); (try (have : w.heap.size + 1 + 1 < w2.heap.size := by omega)); (try (have : w.heap.size + 1 + 1 + 1 < w2.heap.size := by omega))
        have hB1 : Blk w2 (w.heap.size + 2) 27 #[.int .i64 0, .int .i64 0, .slice none 0 0] := ((blk_new _ 27 _ (by simp)).below hbw1 (by simp)).below hbw2 (by omega)
        have d0 := hB1.cell 0
        have d1 := hB1.cell 1
        have d2 := hB1.cell 2
        simp only [List.getElem?_toArray] at d0 d1 d2
        clear hB1
        go_wp2
        refine bodyPost_ret (by simp [results, Try.results17, go_sem, d0, d1, d2]; try rfl) rfl ?_
        exact FieldOut.none (by repeat' (first | (with_reducible exact Below.refl _ _) | (with_reducible assumption) | (with_reducible refine Below.alloc ?_ ?_ _) | (with_reducible refine Below.drew ?_) | (with_reducible refine Below.setCell ?_ ?_ _) | (with_reducible refine Below.stepB (by assumption) ?_ ?_) | go_size))
      · clear h
        go_enter Try.func17, Try.ntmps17
        go_wp2_with fail
        refine (H1.out _ (by repeat' (first | (with_reducible exact Below.refl _ _) | (with_reducible assumption) | (with_reducible refine Below.alloc ?_ ?_ _) | (with_reducible refine Below.drew ?_) | (with_reducible refine Below.setCell ?_ ?_ _) | (with_reducible refine Below.stepB (by assumption) ?_ ?_) | go_size))).mono ?_
        rintro e w1 ⟨rfl, hbw1⟩
        obtain ⟨hzw1, hcw1, hfw1⟩ := bfacts hbw1; (try simp at hzw1 hcw1 hfw1); (try (have : w.heap.size < w1.heap.size := by omega)); (try (have : w.heap.size + 1 < w1.heap.size := by omega)); (try (have : w.heap.size + 1 + 1 < w1.heap.size := by omega)); (try (have : w.heap.size + 1 + 1 + 1 < w1.heap.size := by omega))
        go_wp2_with fail
        refine (H2.out _ (by repeat' (first | (with_reducible exact Below.refl _ _) | (with_reducible assumption) | (with_reducible refine Below.alloc ?_ ?_ _) | (with_reducible refine Below.drew ?_) | (with_reducible refine Below.setCell ?_ ?_ _) | (with_reducible refine Below.stepB (by assumption) ?_ ?_) | go_size))).mono ?_
        rintro e w2 ⟨rfl, hbw2⟩
        obtain ⟨hzw2, hcw2, hfw2⟩ := bfacts hbw2; (try simp at hzw2 hcw2 hfw2); (try (have : w.heap.size < w2.heap.size := by omega)); (try (have : w.heap.size + 1 < w2.heap.size := by omega)); (try (have : w.heap.size + 1 + 1 < w2.heap.size := by omega)); (try (have : w.heap.size + 1 + 1 + 1 < w2.heap.size := by omega))
        have hB1 : Blk w2 (w.heap.size + 2) 27 #[.int .i64 0, .int .i64 0, .slice none 0 0] := ((blk_new _ 27 _ (by simp)).below hbw1 (by simp)).below hbw2 (by omega)
        have d0 := hB1.cell 0
        have d1 := hB1.cell 1
        have d2 := hB1.cell 2
        simp only [List.getElem?_toArray] at d0 d1 d2
        clear hB1
        go_wp2
        refine bodyPost_ret (by simp [results, Try.results17, go_sem, d0, d1, d2]; try rfl) rfl ?_
        exact FieldOut.none (by repeat' (first | (with_reducible exact Below.refl _ _) | (with_reducible assumption) | (with_reducible refine Below.alloc ?_ ?_ _) | (with_reducible refine Below.drew ?_) | (with_reducible refine Below.setCell ?_ ?_ _) | (with_reducible refine Below.stepB (by assumption) ?_ ?_) | go_size))
set_option maxHeartbeats 1000000 in
theorem MergeFields_yes (r cl : Int) (A : Option Addr) (n c : Nat) (L1 : Nat → Int) (A2 : Option Addr) (c2 : Nat) (L2 : Nat → Int) (w : World) (hS : SlI w A n L1) (hS2 : SlI w A2 n L2) (hn : n ≤ 1048576)
    (h1 : okF r cl n L1 = true) (h2 : okF r cl n L2 = true) : Calls Try.prog 18 #[.agg #[.int .i64 r, .int .i64 cl, .slice A n c], .agg #[.int .i64 r, .int .i64 cl, .slice A2 n c2]] w
    fun e w' => FieldOut w r cl (mergeL L1 L2 n) true e w' := by
  have g1 := fun W (hb : Below w.heap.size w W) => IsField_any r cl A n c L1 W (hS.below hb) hn
  have g2 := fun W (hb : Below w.heap.size w W) => IsField_any r cl A2 n c2 L2 W (hS2.below hb) hn
  rw [h1] at g1
  rw [h2] at g2
  have H1 := Lib.hid g1
  have H2 := Lib.hid g2
  have HS := Lib.hid hS
  have HS2 := Lib.hid hS2
  clear hS hS2 g1 g2 h1 h2
  obtain ⟨i0, hi0, hz0, hz1, hz2⟩ := info_parts int_infoC
  go_enter Try.func18, Try.ntmps18
  go_wp2_with fail
  refine (H1.out _ (by repeat' (first | (with_reducible exact Below.refl _ _) | (with_reducible assumption) | (with_reducible refine Below.alloc ?_ ?_ _) | (with_reducible refine Below.drew ?_) | (with_reducible refine Below.setCell ?_ ?_ _) | (with_reducible refine Below.stepB (by assumption) ?_ ?_) | go_size))).mono ?_
  rintro e w1 ⟨rfl, hbw1⟩
  obtain ⟨hzw1, hcw1, hfw1⟩ := bfacts hbw1; (try simp at hzw1 hcw1 hfw1); (try (have : w.heap.size < w1.heap.size := by omega)); (try (have : w.heap.size + 1 < w1.heap.size := by omega)); (try (have : w.heap.size + 1 + 1 < w1.heap.size := by omega)); (try (have : w.heap.size + 1 + 1 + 1 < w1.heap.size := by omega))
  go_wp2_with fail
  refine (H2.out _ (by repeat' (first | (with_reducible exact Below.refl _ _) | (with_reducible assumption) | (with_reducible refine Below.alloc ?_ ?_ _) | (with_reducible refine Below.drew ?_) | (with_reducible refine Below.setCell ?_ ?_ _) | (with_reducible refine Below.stepB (by assumption) ?_ ?_) | go_size))).mono ?_
  rintro e w2 ⟨rfl, hbw2⟩
  obtain ⟨hzw2, hcw2, hfw2⟩ := bfacts hbw2; (try simp at hzw2 hcw2 hfw2); (try (have : w.heap.size < w2.heap.size := by omega)); (try (have : w.heap.size + 1 < w2.heap.size := by omega)); (try (have : w.heap.size + 1 + 1 < w2.heap.size := by omega)); (try (have : w.heap.size + 1 + 1 + 1 < w2.heap.size := by omega))
  have hBa : Blk w2 w.heap.size 27 #[.int .i64 r, .int .i64 cl, .slice A n c] := ((((blk_new w 27 _ rfl).alloc _).alloc _).below hbw1 (by simp <;> omega)).below hbw2 (by omega)
  have hBb : Blk w2 (w.heap.size + 1) 27 #[.int .i64 r, .int .i64 cl, .slice A2 n c2] := (((blk_new (w.alloc _) 27 _ (by simp)).alloc _).below hbw1 (by simp <;> omega)).below hbw2 (by omega)
  have hBz : Blk w2 (w.heap.size + 2) 27 #[.int .i64 0, .int .i64 0, .slice none 0 0] := ((blk_new _ 27 _ (by simp)).below hbw1 (by simp)).below hbw2 (by omega)
  have HBb := Lib.hid hBb
  have HBz := Lib.hid hBz
  have a0 := hBa.cell 0
  have a1 := hBa.cell 1
  have a2 := hBa.cell 2
  have b0 := hBb.cell 0
  have b1 := hBb.cell 1
  simp only [List.getElem?_toArray] at a0 a1 a2 b0 b1
  clear hBa hBb hBz hcw1 hcw2
  go_wp2
  clear a0 a1 a2 b0 b1
  go_loopw [41] (fun vc wr => ∃ (k : Nat) (v : Value), k ≤ n ∧ vc = .int .i64 k ∧ wr.ownsRow w2.heap.size 3 1 v (mergeL L1 L2 k).length ((mergeL L1 L2 k).map (Value.int .i64)) ∧ AwayRow v (w2.heap.size + 1) (w2.heap.size + 2) ∧ Blk wr (w2.heap.size + 1) 27 #[.int .i64 r, .int .i64 cl, v] ∧ Below w2.heap.size w2 wr) (fun vc _ => n - (intOf vc).toNat)
  case atStart => exact ⟨0, _, Nat.zero_le _, rfl, (ownsRow_empty w2 3 1).alloc _, AwayRow.at (.inl (Nat.lt_succ_self _)) rfl, blk_new (w2.alloc _) 27 _ (by simp), by repeat' (first | (with_reducible exact Below.refl _ _) | (with_reducible assumption) | (with_reducible refine Below.alloc ?_ ?_ _) | (with_reducible refine Below.drew ?_) | (with_reducible refine Below.setCell ?_ ?_ _) | (with_reducible refine Below.stepB (by assumption) ?_ ?_) | go_size)⟩
  case round =>
    obtain ⟨k, v, hk, rfl, hO, haw, hB, hb2⟩ := hrel
    have hzr := hb2.size
    have hlt1 := hB.lt
    have hlen : (mergeL L1 L2 k).length ≤ k := pick_len k
    obtain ⟨A7, c7, rfl⟩ := ownsRow_form hO
    have HO := Lib.hid hO
    have HAW := Lib.hid haw
    clear hO haw
    have hbw : Below w.heap.size w wr := by repeat' (first | (with_reducible exact Below.refl _ _) | (with_reducible assumption) | (with_reducible refine Below.alloc ?_ ?_ _) | (with_reducible refine Below.drew ?_) | (with_reducible refine Below.setCell ?_ ?_ _) | (with_reducible refine Below.stepB (by assumption) ?_ ?_) | go_size)
    by_cases hlt : k < n
    · obtain ⟨b, off, rfl, hbl, hbl', c0⟩ := HS.out.at hbw hlt
      obtain ⟨b', off', rfl, hbl2, hbl2', d0⟩ := HS2.out.at hbw hlt
      have hB5 := HBb.out.below hb2 HBb.out.lt
      have e2 : wr.cell? ⟨w.heap.size + 1, 2, none⟩ = some (.slice (some ⟨b', off', none⟩) n c2) := hB5.cell 2
      have f2 : wr.cell? ⟨w2.heap.size + 1, 2, none⟩ = some (.slice A7 (mergeL L1 L2 k).length c7) := hB.cell 2
      have ffz := hB.frozen
      clear hB5
      have HB := Lib.hid hB
      have HBW := Lib.hid hbw
      have hltw : w.heap.size + 1 < w2.heap.size := HBb.out.lt
      clear hB hbw
      go_wp2
      go_region_law (first | (refine step_append_int1_away (by rfl) _ _ 22 (by rfl) w2.heap.size 3 i0 Try.underlying22 hi0 hz0 hz1 hz2 _ (mergeL L1 L2 k).length _ (by rfl) ((HO.out.alloc _).drew) _ _ HAW.out ?_ ⟨wr.heap.size, 0, none⟩ 1 (if L2 k < L1 k then L2 k else L1 k) (by rfl) ?_ (by omega) (by simp; omega) ?_; go_loud (focus (simp; omega)); go_loud (focus (simp; done)); intro v9 w4 hOw4 hbw4 haw4 hbl4; have hzw4 := hbw4.size; (try simp at hzw4); obtain ⟨A9, c9, rfl⟩ := ownsRow_form hOw4; have hB4 : Blk w4 (w2.heap.size + 1) 27 #[.int .i64 r, .int .i64 cl, .slice A7 (mergeL L1 L2 k).length c7] := (hbl4 (w2.heap.size + 1) (Nat.le_refl _) (by omega)).trans ((HB.out.alloc _).drew); have f4 : w4.cell? ⟨w2.heap.size + 1, 2, none⟩ = some (.slice A7 (mergeL L1 L2 k).length c7) := hB4.cell 2; have fz4 := hB4.frozen 2; have hlt4 := hB4.lt))
      all_goals
        have hB24 : Below w2.heap.size w2 w4 := by repeat' (first | (with_reducible exact Below.refl _ _) | (with_reducible assumption) | (with_reducible refine Below.alloc ?_ ?_ _) | (with_reducible refine Below.drew ?_) | (with_reducible refine Below.setCell ?_ ?_ _) | (with_reducible refine Below.stepB (by assumption) ?_ ?_) | go_size)
        have hO4 := Lib.hid hOw4
        have HB4 := Lib.hid hB4
        clear hOw4 hB4 e2 f2 ffz
        go_wp2
        go_roundw
        case rel => exact ⟨k + 1, _, by omega, by go_num, by rw [mergeL_snoc]; exact owns_snoc (ownsRow_setFar hO4.out haw4 (Nat.le_refl _) (Nat.lt_succ_self _)), haw4, HB4.out.set_ 2 _, hB24.setCell (Nat.le_succ _) _⟩
        case measure => simp [intOf]; omega
    · obtain rfl : k = n := by omega
      have hBz := HBz.out.below hb2 HBz.out.lt
      have z0 := hBz.cell 0
      have z1 := hBz.cell 1
      have z2 := hBz.cell 2
      have y0 := hB.cell 0
      have y1 := hB.cell 1
      have y2 := hB.cell 2
      simp only [List.getElem?_toArray] at z0 z1 z2 y0 y1 y2
      have zf := hBz.frozen
      have hltz := hBz.lt
      have hne : w.heap.size + 2 < w2.heap.size := HBz.out.lt
      clear hB hBz
      go_wp2
      refine bodyPost_ret (by simp [results, Try.results18, go_sem, z0, z1, z2]; try rfl) rfl ?_
      refine FieldOut.row (((ownsRow_setBelow (ownsRow_setBelow (ownsRow_setBelow HO.out ?_) ?_) ?_))) (by omega) (by repeat' (first | (with_reducible exact Below.refl _ _) | (with_reducible assumption) | (with_reducible refine Below.alloc ?_ ?_ _) | (with_reducible refine Below.drew ?_) | (with_reducible refine Below.setCell ?_ ?_ _) | (with_reducible refine Below.stepB (by assumption) ?_ ?_) | go_size))
      all_goals (simp; omega)
end Go.Proofs.Ytepibbjcmjabiaa
