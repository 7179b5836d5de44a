/- Contract: the draw of spots and a mesh. -/
import Derived.Test.YtfflbkmncnaffaaMsA
import Derived.Test.YtfflbkmncnaffaaMeshG
import Derived.Test.YtfflbkmncnaffaaStepG
import Derived.Deep.CutBlock
import Derived.Deep.DeepCutAuto
import Derived.Deep.RegionLaw
import Derived.Deep.RegionHeld3
namespace Go.Proofs.Ytfflbkmncnaffaa
open Go.RowKit
theorem among_mem (b : Nat) (A : Option Addr) (n c K : Nat) (g m c2 : Nat) (ls : List Int) (w : World) (h : CurS w b A n c K) (hK : K ≤ 999990) (hn : n ≤ 9223372036854775807) (hB : Blk w g 3 (ls.map (Value.int .i64)).toArray) (hg : g ≠ b) (hm0 : 0 < m) (hm : m ≤ ls.length) (hl : ls.length ≤ 1000) :
    Calls Try.prog 99 #[.pointer (some ⟨b, 0, none⟩), .slice (some ⟨g, 0, none⟩) m c2] w fun e w' => ∃ x : Int, e = .returned (.int .i64 x) ∧ x ∈ ls ∧ Drew w b A n c (K + 2) w' := by
  have HP := Lib.hid (pick_any b A n c K m w h hK hn (by omega))
  have HB := Lib.hid hB
  clear h hB
  go_enter Try.func99, Try.ntmps99
  go_wp2_with fail
  refine HP.out.mono ?_
  rintro e w1 ⟨x, rfl, x0, x1, hD⟩
  have HD := Lib.hid hD
  have HB1 := Lib.hid (HB.out.keptC hD.2 hg)
  clear hD
  obtain ⟨i, rfl⟩ : ∃ i : Nat, x = i := ⟨x.toNat, by omega⟩
  have him : i < m := by omega
  have hgl := HB1.out.lt
  have hc : w1.cell? ⟨g, i, none⟩ = some (.int .i64 (ls.getD i 0)) := by
    rw [HB1.out.cell]
    simp [List.getD, show i < ls.length by omega]
  have hmem : ls.getD i 0 ∈ ls := by simp [List.getD, show i < ls.length by omega]
  generalize ls.getD i 0 = z at hc hmem
  have HM := Lib.hid hmem
  clear x1 hmem
  go_wp2
  go_ret
  exact ⟨z, rfl, HM.out, HD.out⟩
/-- a block of numbers, two for each spot -/
theorem own_spots {w : World} {lo b n : Nat} {t : TypeId} {cs : Array Value} (hB : Blk w b t cs) (hlo : lo ≤ b) (hn : n * 2 ≤ cs.size) (h : ∀ k, k < n * 2 → ∃ z : Int, cs[k]? = some (.int .i64 z)) : ∃ S : Nat → SP, Own w lo 2 (some ⟨b, 0, none⟩) n (fun i j => (S i).cell j) := by
  refine ⟨fun i => ⟨intOf (cs.getD (i * 2) default), intOf (cs.getD (i * 2 + 1) default)⟩, fun _ => ⟨b, t, cs, rfl, hlo, hB, hn, fun i j hi hj => ?_⟩⟩
  have hj' : j = 0 ∨ j = 1 := by omega
  rcases hj' with rfl | rfl
  · obtain ⟨z, hz⟩ := h (i * 2) (by omega)
    have hlt : i * 2 < cs.size := by omega
    rw [Nat.add_zero, hz]
    have := Array.getElem?_eq_getElem hlt ▸ hz
    simp at this
    simp [SP.cell, Array.getD, hlt, this, intOf]
  · obtain ⟨z, hz⟩ := h (i * 2 + 1) (by omega)
    have hlt : i * 2 + 1 < cs.size := by omega
    rw [hz]
    have := Array.getElem?_eq_getElem hlt ▸ hz
    simp at this
    simp [SP.cell, Array.getD, hlt, this, intOf]
def rowT (T : Nat → Nat → Int) (m : Nat) : List Value := flatG 3 (fun i j => .int .i64 (T i j)) m
def putT (T : Nat → Nat → Int) (m : Nat) (t : Nat → Int) : Nat → Nat → Int := fun i j => if i = m then t j else T i j
def tri3 (x y z : Int) : Nat → Int
  | 0 => x
  | 1 => y
  | _ => z
theorem rowT_snoc (T : Nat → Nat → Int) (m : Nat) (t : Nat → Int) : rowT T m ++ flatG 3 (fun _ j => .int .i64 (t j)) 1 = rowT (putT T m t) (m + 1) := by
  unfold rowT
  rw [flatG_snoc (fun i j => .int .i64 (T i j)) (fun j => .int .i64 (t j)) (by decide)]
  congr 1
  funext i j
  by_cases h : i = m <;> simp [putT, h]
theorem tri_box {w : World} {g : Nat} {x y z : Int} (h : Blk w g 41 #[.int .i64 x, .int .i64 y, .int .i64 z]) : ∀ i j, i < 1 → j < 3 → w.cell? ⟨g, 0 + i * 3 + j, none⟩ = some (.int .i64 (tri3 x y z j)) := fun i j hi hj => by
  obtain rfl : i = 0 := by omega
  have : j = 0 ∨ j = 1 ∨ j = 2 := by omega
  rcases this with rfl | rfl | rfl
  · exact h.cell 0
  · exact h.cell 1
  · exact h.cell 2
theorem ownsRow_blkT {w : World} {base : Nat} {e : TypeId} {k g : Nat} (h : Blk w g e #[]) (hb : base ≤ g) : w.ownsRow base e k (.slice (some ⟨g, 0, none⟩) 0 0) 0 [] :=
  ⟨by simp, .inr ⟨g, 0, #[], rfl, hb, h, Nat.le_refl _, Nat.zero_le _, by simp, by simp⟩⟩
theorem ownsRow_low {w : World} {base base' : Nat} {e : TypeId} {k n : Nat} {v : Value} {xs : List Value} (h : w.ownsRow base e k v n xs) (hb : base' ≤ base) : w.ownsRow base' e k v n xs := by
  obtain ⟨h1, h2⟩ := h
  refine ⟨h1, ?_⟩
  rcases h2 with h2 | ⟨g, cap, cur, rfl, p, q, d⟩
  · exact .inl h2
  · exact .inr ⟨g, cap, cur, rfl, Nat.le_trans hb p, q, d⟩
theorem ownsRow_other {w : World} {base g : Nat} {e t : TypeId} {k n o : Nat} {v u : Value} {xs : List Value} {cs : Array Value} (h : w.ownsRow base e k v n xs) (hB : Blk w g t cs) (ht : e ≠ t) : (w.setCell ⟨g, o, none⟩ u).ownsRow base e k v n xs := by
  obtain ⟨h1, h2⟩ := h
  refine ⟨h1, ?_⟩
  rcases h2 with h2 | ⟨g', cap, cur, rfl, p, q, d⟩
  · exact .inl h2
  · refine .inr ⟨g', cap, cur, rfl, p, (Below.heap_setCell w ⟨g, o, none⟩ u g' (fun he => ?_)).trans q, d⟩
    have he' : g' = g := he
    subst he'
    unfold Blk at hB
    rw [hB] at q
    injection q with q
    injection q with _ q _
    exact ht q.symm
theorem wpList_append_rowK {P : Program} (w : World) {ops : Array Oper} {rest : List Oper} {o : Oper} {a : Act} {Q : Exit → Act → World → Prop} (hgd : o.guard = none) (s x : Operand) (t : TypeId)
    (ho : o.op = .call { callee := .builtin .append, args := #[s, x], argTypes := #[t, t] })
    (base : Nat) (e : TypeId) (i : TypeInfo) (z : Value) (k bytes : Nat) (ht : P.underlying t = some (.slice e)) (hi : P.info? e = some i) (hz : i.zero = some z) (hsize : i.size = k) (hby : i.bytes = bytes)
    (hzs : z.cells.size = k) (hk : 0 < k)
    (v : Value) (n : Nat) (xs : List Value) (hs : a.eval s = v) (hown : w.ownsRow base e k v n xs) (hv : v ≠ .slice none 0 0)
    (b off m c : Nat) (g : Nat → Nat → Value) (hx : a.eval x = .slice (some ⟨b, off, none⟩) m c) (hcell : ∀ i j, i < m → j < k → w.cell? ⟨b, off + i * k + j, none⟩ = some (g i j))
    (h1 : ∀ i j, (g i j).oneCell' = true) (hn : n + m ≤ 1048576) (hbs : bytes ≤ 1000) (hbase : base ≤ w.heap.size)
    (h : ∀ b' c' w', w'.ownsRow base e k (.slice (some ⟨b', 0, none⟩) (n + m) c') (n + m) (xs ++ flatG k g m) → n + m ≤ c' → base ≤ b' → Below base w w' → (∀ q, q < w.heap.size → some q ≠ v.ownBlock → w'.heap[q]? = w.heap[q]?) → wpList P ops Q rest (a.put o.dst (.slice (some ⟨b', 0, none⟩) (n + m) c')) w') : wpList P ops Q (o :: rest) a w := by
  refine wpList_append_own w hgd s x t ho base e i z k bytes ht hi hz hsize hby hzs hk v n xs hs hown ⟨b, off, none⟩ m c (flatG k g m) hx (flatG_len k g m) ?_ ?_ (by unfold maxLen; omega) ?_ hbase ?_
  · intro q u hu
    obtain ⟨h2, h3, rfl⟩ := flatG_at hk hu
    have h4 := hcell _ _ h2 h3
    rw [Nat.add_assoc, Nat.mul_comm (q / k) k, Nat.div_add_mod] at h4
    rw [Addr.add_lit]
    exact h4
  · intro u hu
    obtain ⟨i, j, rfl⟩ := flatG_mem hu
    exact h1 i j
  · exact Nat.le_trans (Nat.mul_le_mul hn hbs) (by decide)
  · intro v' w' h1 h2 h3
    have hb : Below base w w' := (Below.refl base w).grown h2 hbase (by
      intro k hk
      rcases hown.2 with ⟨rfl, _⟩ | ⟨g, cap, cur, rfl, hg, _⟩
      · simp [Value.ownBlock] at hk
      · simp [Value.ownBlock] at hk
        omega)
    rcases h1.2 with ⟨rfl, _⟩ | ⟨g', cap, cur, rfl, hg, hh, hnc, _⟩
    · exact absurd (h3.1 rfl).1 hv
    · exact h g' cap w' h1 hnc hg hb (fun q hq hne => h2.block q hq hne)
theorem ownsRow_ne {w : World} {base g b m c : Nat} {e t : TypeId} {k n : Nat} {xs : List Value} {cs : Array Value} (h : w.ownsRow base e k (.slice (some ⟨b, 0, none⟩) m c) n xs) (hB : Blk w g t cs) (ht : e ≠ t) : g ≠ b := fun he => by
  rcases h.2 with ⟨hv, _⟩ | ⟨g', cap, cur, hv, p, q, _⟩
  · cases hv
  · injection hv with hv _ _
    injection hv with hv
    injection hv with hv _ _
    subst hv he
    unfold Blk at hB
    rw [hB] at q
    injection q with q
    injection q with _ q _
    exact ht q.symm
/-- all triangles that are tried -/
def allT : List Int := [0, 1, 2, 0, 1, 4, 0, 2, 3, 0, 4, 3, 1, 2, 4, 1, 5, 2, 2, 3, 4, 2, 4, 3]
def spoL (y1 x3 y4 : Int) : List Int := [0, 0, 100, y1, 100, 100, x3, 100, 50, y4, 150, 50]
theorem list_cell {w : World} {g k : Nat} {ls : List Int} {t : TypeId} (h : Blk w g t (ls.map (Value.int .i64)).toArray) (hk : k < ls.length) : w.cell? ⟨g, k, none⟩ = some (.int .i64 (ls.getD k 0)) := by
  rw [h.cell]
  simp [List.getD, hk]
theorem spots_own {w : World} {lo b n : Nat} {t : TypeId} {y1 x3 y4 : Int} (hB : Blk w b t ((spoL y1 x3 y4).map (Value.int .i64)).toArray) (hlo : lo ≤ b) (hn : n ≤ 6) : ∃ S : Nat → SP, Own w lo 2 (some ⟨b, 0, none⟩) n (fun i j => (S i).cell j) :=
  own_spots hB hlo (by simp [spoL]; omega) (fun k hk => ⟨(spoL y1 x3 y4).getD k 0, by simp [List.getD, show k < (spoL y1 x3 y4).length by simp [spoL]; omega]⟩)
theorem trip_info : (Try.prog.info? 41).map (fun i => (i.zero, i.size, i.bytes)) = some (some (.agg #[.int .i64 0, .int .i64 0, .int .i64 0]), 3, 24) := by kernel_rfl
set_option maxRecDepth 100000 in
set_option maxHeartbeats 8000000 in
theorem mesh_any (b : Nat) (A : Option Addr) (n c K : Nat) (w : World) (h : CurS w b A n c K) (hK : K ≤ 990000) (hn : n ≤ 9223372036854775807) :
    Calls Try.prog 70 #[.pointer (some ⟨b, 0, none⟩)] w fun e w' => ∃ (p b1 c1 : Nat) (S : Nat → SP) (m b2 c2 : Nat) (T : Nat → Nat → Int), e = .returned (.tuple #[.slice (some ⟨b1, 0, none⟩) p c1, .slice (some ⟨b2, 0, none⟩) m c2]) ∧ p ≤ 6 ∧ p ≤ c1 ∧ m ≤ 9 ∧ m ≤ c2 ∧ Own w' w.heap.size 2 (some ⟨b1, 0, none⟩) p (fun i j => (S i).cell j) ∧ Own w' w.heap.size 3 (some ⟨b2, 0, none⟩) m (fun i j => .int .i64 (T i j)) ∧ Drew w b A n c (K + 100) w' := by
  have HAM := Lib.hid (fun K' g m c2 ls W (hK : K' ≤ 999990) (hC : CurS W b A n c K') hB hg hm0 hm hl => among_mem b A n c K' g m c2 ls W hC hK hn hB hg hm0 hm hl)
  have HPK := Lib.hid (fun K' (m : Int) W (hK : K' ≤ 999990) (hC : CurS W b A n c K') (hm : m ≤ 100000) => pick_any b A n c K' m W hC hK hn hm)
  have HON := Lib.hid (fun K' (m : Int) W (hK : K' ≤ 999990) (hC : CurS W b A n c K') (hm : m ≤ 100000) => one_any b A n c K' m W hC hK hn hm)
  have HC := Lib.hid h
  have hbl := h.lt
  clear h
  have HK0 := Lib.hid (Kept.refl w (some ⟨b, 0, none⟩) 1)
  obtain ⟨q0, hq0, hy0, hy1, hy2⟩ := info_parts trip_info
  go_enter Try.func70, Try.ntmps70
  go_wp2_with fail
  refine (HAM.out K w.heap.size 3 3 [0, 0, 10] _ (by omega) (HC.out.below (by repeat' (first | (with_reducible exact Below.refl _ _) | (with_reducible assumption) | (with_reducible refine Below.alloc ?_ ?_ _) | (with_reducible refine Below.drew ?_) | (with_reducible refine Below.setCell ?_ ?_ _) | (with_reducible refine Below.stepB (by assumption) ?_ ?_) | go_size))) ?_ (by omega) (by decide) (by decide) (by decide)).mono ?_
  · exact blk_newC _ (by simp)
  rintro e w1 ⟨y1, rfl, -, hD⟩
  have HK1 := Lib.hid ((HK0.out.onB (show Below w.heap.size w _ from by repeat' (first | (with_reducible exact Below.refl _ _) | (with_reducible assumption) | (with_reducible refine Below.alloc ?_ ?_ _) | (with_reducible refine Below.drew ?_) | (with_reducible refine Below.setCell ?_ ?_ _) | (with_reducible refine Below.stepB (by assumption) ?_ ?_) | go_size))).trans1 hD.2)
  have HC1 := Lib.hid hD.1
  have hz1 := hD.2.size
  (try simp at hz1)
  clear hD
  go_wp2_with fail
  refine (HAM.out (K + 2) w1.heap.size 3 3 [0, 0, 20] _ (by omega) (HC1.out.below (by repeat' (first | (with_reducible exact Below.refl _ _) | (with_reducible assumption) | (with_reducible refine Below.alloc ?_ ?_ _) | (with_reducible refine Below.drew ?_) | (with_reducible refine Below.setCell ?_ ?_ _) | (with_reducible refine Below.stepB (by assumption) ?_ ?_) | go_size))) ?_ (by omega) (by decide) (by decide) (by decide)).mono ?_
  · exact blk_newC _ (by simp)
  rintro e w2 ⟨x3, rfl, -, hD⟩
  have HK2 := Lib.hid ((HK1.out.onB (show Below w.heap.size w1 _ from by repeat' (first | (with_reducible exact Below.refl _ _) | (with_reducible assumption) | (with_reducible refine Below.alloc ?_ ?_ _) | (with_reducible refine Below.drew ?_) | (with_reducible refine Below.setCell ?_ ?_ _) | (with_reducible refine Below.stepB (by assumption) ?_ ?_) | go_size))).trans1 hD.2)
  have HC2 := Lib.hid hD.1
  have hz2 := hD.2.size
  (try simp at hz2)
  clear hD
  go_wp2_with fail
  refine (HAM.out (K + 4) w2.heap.size 4 4 [50, 40, 150, 150] _ (by omega) (HC2.out.below (by repeat' (first | (with_reducible exact Below.refl _ _) | (with_reducible assumption) | (with_reducible refine Below.alloc ?_ ?_ _) | (with_reducible refine Below.drew ?_) | (with_reducible refine Below.setCell ?_ ?_ _) | (with_reducible refine Below.stepB (by assumption) ?_ ?_) | go_size))) ?_ (by omega) (by decide) (by decide) (by decide)).mono ?_
  · exact blk_newC _ (by simp)
  rintro e w3 ⟨y4, rfl, -, hD⟩
  have HK3 := Lib.hid ((HK2.out.onB (show Below w.heap.size w2 _ from by repeat' (first | (with_reducible exact Below.refl _ _) | (with_reducible assumption) | (with_reducible refine Below.alloc ?_ ?_ _) | (with_reducible refine Below.drew ?_) | (with_reducible refine Below.setCell ?_ ?_ _) | (with_reducible refine Below.stepB (by assumption) ?_ ?_) | go_size))).trans1 hD.2)
  have HC3 := Lib.hid hD.1
  have hz3 := hD.2.size
  (try simp at hz3)
  clear hD
  go_wp2
  have HS0 := Lib.hid (((blk_newC (g := w3.heap.size) (t := 26) (cs := ((spoL y1 x3 y4).map (Value.int .i64)).toArray) w3 rfl).alloc (.cells ((allT.map (Value.int .i64)).toArray) 41)).alloc (.cells #[] 41))
  have HA0 := Lib.hid ((blk_newC (g := w3.heap.size + 1) (t := 41) (cs := (allT.map (Value.int .i64)).toArray) (w3.alloc (.cells ((spoL y1 x3 y4).map (Value.int .i64)).toArray 26)) (by simp)).alloc (.cells #[] 41))
  have HO0 := Lib.hid (ownsRow_blkT (base := w.heap.size) (e := 41) (k := 3) (blk_newC (g := w3.heap.size + 1 + 1) (t := 41) (cs := #[]) ((w3.alloc (.cells ((spoL y1 x3 y4).map (Value.int .i64)).toArray 26)).alloc (.cells ((allT.map (Value.int .i64)).toArray) 41)) (by simp)) (by omega))
  go_loopw [6, 7] (fun v6 v7 wr => ∃ (i m b6 c6 : Nat) (T : Nat → Nat → Int), v7 = .int .i64 i ∧ i ≤ 8 ∧ v6 = .slice (some ⟨b6, 0, none⟩) m c6 ∧ m ≤ i ∧ Hid (wr.ownsRow w.heap.size 41 3 (.slice (some ⟨b6, 0, none⟩) m c6) m (rowT T m)) ∧ Hid (CurS wr b A n c (K + 6 + 6 * i)) ∧ Hid (Kept w wr (some ⟨b, 0, none⟩) 1) ∧ Hid (Blk wr w3.heap.size 26 ((spoL y1 x3 y4).map (Value.int .i64)).toArray) ∧ Hid (Blk wr (w3.heap.size + 1) 41 (allT.map (Value.int .i64)).toArray) ∧ w3.heap.size + 1 < wr.heap.size) (fun _ v7 _ => 8 - (intOf v7).toNat)
  case atStart => exact ⟨0, 0, _, _, fun _ _ => 0, rfl, by omega, rfl, by omega, HO0.out, (HC3.out.below (by repeat' (first | (with_reducible exact Below.refl _ _) | (with_reducible assumption) | (with_reducible refine Below.alloc ?_ ?_ _) | (with_reducible refine Below.drew ?_) | (with_reducible refine Below.setCell ?_ ?_ _) | (with_reducible refine Below.stepB (by assumption) ?_ ?_) | go_size))).more (by omega), HK3.out.onB (by repeat' (first | (with_reducible exact Below.refl _ _) | (with_reducible assumption) | (with_reducible refine Below.alloc ?_ ?_ _) | (with_reducible refine Below.drew ?_) | (with_reducible refine Below.setCell ?_ ?_ _) | (with_reducible refine Below.stepB (by assumption) ?_ ?_) | go_size)), HS0.out, HA0.out, by simp⟩
  case round =>
    clear HO0 HS0 HA0 HC3 HK3
    obtain ⟨i, m, b6, c6, T, rfl, hi, rfl, hmi, hO, hC, hKp, hSB', hAB, hzr⟩ := hrel
    by_cases hlt : i < 8
    · have hAl := hAB.out.lt
      have x0 := list_cell hAB.out (k := i * 3) (by simp [allT]; omega)
      have x1 := list_cell hAB.out (k := i * 3 + 1) (by simp [allT]; omega)
      have x2 := list_cell hAB.out (k := i * 3 + 2) (by simp [allT]; omega)
      generalize allT.getD (i * 3) 0 = a0 at x0
      generalize allT.getD (i * 3 + 1) 0 = a1 at x1
      generalize allT.getD (i * 3 + 2) 0 = a2 at x2
      have HME := Lib.hid (own_flat hO.out)
      have HCN := Lib.hid (fun (W : World) (hb : Below wr.heap.size wr W) (q j : Nat) (hq : q < m) (hj : j < 3) => show W.cell? ⟨b6, 0 + q * 3 + j, none⟩ = some (.int .i64 (T q j)) from by
        obtain ⟨b1, o1, e1, _, hc⟩ := (Sl.below HME.out.sl hb) (by omega)
        obtain ⟨rfl, rfl⟩ : b6 = b1 ∧ 0 = o1 := by simpa using e1
        exact hc q j hq hj)
      have hm8 : m ≤ 8 := by omega
      go_upto_region 7 with fail
      go_cut [8] (fun v8 wx => ∃ b8 c8 : Nat, v8 = .slice (some ⟨b8, 0, none⟩) (m + 1) c8 ∧ Hid (wx.ownsRow wr.heap.size 41 3 (.slice (some ⟨b8, 0, none⟩) (m + 1) c8) (m + 1) (rowT (putT T m (tri3 a0 a1 a2)) (m + 1))) ∧ Below wr.heap.size wr wx)
      case first =>
        go_region_law (first
          | (refine step_append_rowG (by rfl) _ _ 32 (by rfl) wr.heap.size 41 q0 _ 3 24 Try.underlying32 hq0 hy0 hy1 hy2 (by rfl) (by decide) (.slice (some ⟨wr.heap.size, 0, none⟩) 0 0) 0 [] (by rfl) ?_ b6 0 m c6 (fun q j => .int .i64 (T q j)) (by rfl) ?_ (fun _ _ => rfl) (by omega) (by decide) ?_ ?_; go_must (focus first | exact ownsRow_blkT (Blk.drew (blk_newC wr rfl)) (Nat.le_refl _) | exact ownsRow_blkT (Blk.drew ((blk_newC wr rfl).alloc _)) (Nat.le_refl _)); go_loud (focus exact fun q j hq hj => HCN.out _ (by repeat' (first | (with_reducible exact Below.refl _ _) | (with_reducible assumption) | (with_reducible refine Below.alloc ?_ ?_ _) | (with_reducible refine Below.drew ?_) | (with_reducible refine Below.setCell ?_ ?_ _) | (with_reducible refine Below.stepB (by assumption) ?_ ?_) | go_size)) q j (by omega) hj); go_loud (focus first | omega | (simp; omega) | (simp; done)); intro v5 w5 hO5 hb5 hk5; rw [Nat.zero_add, List.nil_append] at hO5; obtain ⟨A5, c5, rfl⟩ := ownsRow_form hO5; have hB45 : Below wr.heap.size wr w5 := (by repeat' (first | (with_reducible exact Below.refl _ _) | (with_reducible assumption) | (with_reducible refine Below.alloc ?_ ?_ _) | (with_reducible refine Below.drew ?_) | (with_reducible refine Below.setCell ?_ ?_ _) | (with_reducible refine Below.stepB (by assumption) ?_ ?_) | go_size)); have r0 := (hB45.cell (p := ⟨w3.heap.size + 1, _, none⟩) hAl).trans x0; have r1 := (hB45.cell (p := ⟨w3.heap.size + 1, _, none⟩) hAl).trans x1; have r2 := (hB45.cell (p := ⟨w3.heap.size + 1, _, none⟩) hAl).trans x2; clear hB45; have hz5 := hb5.size; (try simp at hz5); (try (have hBf5 : Blk w5 (wr.heap.size + 1) 41 #[.int .i64 a0, .int .i64 a1, .int .i64 a2] := (hk5 _ (by first | (simp; done) | (simp; omega)) (by simp [Value.ownBlock])).trans (show Blk ((wr.alloc (.cells #[] 41)).alloc (.cells #[.int .i64 a0, .int .i64 a1, .int .i64 a2] 41)).drew (wr.heap.size + 1) 41 #[.int .i64 a0, .int .i64 a1, .int .i64 a2] from Blk.drew (blk_newC (wr.alloc (.cells #[] 41)) (by simp))))); clear hk5)
          | (refine step_append_rowG (by rfl) _ _ 32 (by rfl) wr.heap.size 41 q0 _ 3 24 Try.underlying32 hq0 hy0 hy1 hy2 (by rfl) (by decide) (.slice (some ⟨wr.heap.size + 1, 0, none⟩) 0 0) 0 [] (by rfl) ?_ b6 0 m c6 (fun q j => .int .i64 (T q j)) (by rfl) ?_ (fun _ _ => rfl) (by omega) (by decide) ?_ ?_; go_must (focus exact ownsRow_blkT (Blk.drew (blk_newC _ (by simp))) (by omega)); go_loud (focus exact fun q j hq hj => HCN.out _ (by repeat' (first | (with_reducible exact Below.refl _ _) | (with_reducible assumption) | (with_reducible refine Below.alloc ?_ ?_ _) | (with_reducible refine Below.drew ?_) | (with_reducible refine Below.setCell ?_ ?_ _) | (with_reducible refine Below.stepB (by assumption) ?_ ?_) | go_size)) q j (by omega) hj); go_loud (focus first | omega | (simp; omega) | (simp; done)); intro v5 w5 hO5 hb5 hk5; rw [Nat.zero_add, List.nil_append] at hO5; obtain ⟨A5, c5, rfl⟩ := ownsRow_form hO5; have hB45 : Below wr.heap.size wr w5 := (by repeat' (first | (with_reducible exact Below.refl _ _) | (with_reducible assumption) | (with_reducible refine Below.alloc ?_ ?_ _) | (with_reducible refine Below.drew ?_) | (with_reducible refine Below.setCell ?_ ?_ _) | (with_reducible refine Below.stepB (by assumption) ?_ ?_) | go_size)); have r0 := (hB45.cell (p := ⟨w3.heap.size + 1, _, none⟩) hAl).trans x0; have r1 := (hB45.cell (p := ⟨w3.heap.size + 1, _, none⟩) hAl).trans x1; have r2 := (hB45.cell (p := ⟨w3.heap.size + 1, _, none⟩) hAl).trans x2; clear hB45; have hz5 := hb5.size; (try simp at hz5); (try (have hBf5 : Blk w5 wr.heap.size 41 #[.int .i64 a0, .int .i64 a1, .int .i64 a2] := (hk5 _ (by first | (simp; done) | (simp; omega)) (by simp [Value.ownBlock])).trans (show Blk ((wr.alloc (.cells #[.int .i64 a0, .int .i64 a1, .int .i64 a2] 41)).alloc (.cells #[] 41)).drew wr.heap.size 41 #[.int .i64 a0, .int .i64 a1, .int .i64 a2] from Blk.drew ((blk_newC wr rfl).alloc _)))); clear hk5)
          | (refine step_append_rowG (by rfl) _ _ 32 (by rfl) wr.heap.size 41 q0 _ 3 24 Try.underlying32 hq0 hy0 hy1 hy2 (by rfl) (by decide) _ m (rowT T m) (by rfl) ?_ _ 0 1 1 (fun _ j => .int .i64 (tri3 a0 a1 a2 j)) (by rfl) ?_ (fun _ j => rfl) (by omega) (by decide) ?_ ?_; go_loud (focus first | exact hO5 | exact ownsRow_below hO5 (Below.alloc (Below.refl _ _) (Nat.le_refl _) _)); go_loud (focus first | exact tri_box hBf5 | exact tri_box (blk_newC w5 rfl)); go_loud (focus first | omega | (simp; omega) | (simp; done)); intro v6 w6 hO6 hb6 hk6; clear hk6; obtain ⟨B6, c6', rfl⟩ := ownsRow_posM hO6 (Nat.succ_pos _); have hz6 := hb6.size; (try simp at hz6)))
        all_goals
          rw [rowT_snoc] at hO6
          have HO6 := Lib.hid hO6
          clear hO6
          go_wp2_with fail
          go_meet
          exact ⟨B6, c6', rfl, HO6.out, by repeat' (first | (with_reducible exact Below.refl _ _) | (with_reducible assumption) | (with_reducible refine Below.alloc ?_ ?_ _) | (with_reducible refine Below.drew ?_) | (with_reducible refine Below.setCell ?_ ?_ _) | (with_reducible refine Below.stepB (by assumption) ?_ ?_) | go_size)⟩
      obtain ⟨b8, c8, rfl, hO8, hbc⟩ := hcut
      have hzc := hbc.size
      clear x0 x1 x2 HME HCN
      have HO8 := Lib.hid (ownsRow_low (base' := w.heap.size) hO8.out (by omega))
      have HOc := Lib.hid (ownsRow_below hO.out hbc)
      have HCc := Lib.hid (hC.out.below hbc)
      have HKc := Lib.hid (hKp.out.laterB hbc)
      have HSc := Lib.hid (hSB'.out.below hbc hSB'.out.lt)
      have HAc := Lib.hid (hAB.out.below hbc hAl)
      clear hO8 hO hC hKp hSB' hAB hbc
      go_wp2_with fail
      refine (HON.out (K + 6 + 6 * i) 4 _ (by omega) HCc.out (by decide)).mono ?_
      rintro e w5 ⟨q, rfl, hD⟩
      have HO5 := Lib.hid (ownsRow_keptC HOc.out hD.2 hbl)
      have HN5 := Lib.hid (ownsRow_keptC HO8.out hD.2 hbl)
      have HK5 := Lib.hid (HKc.out.trans1 hD.2)
      have HC5 := Lib.hid hD.1
      have HS5 := Lib.hid (HSc.out.keptC hD.2 (by omega))
      have HA5 := Lib.hid (HAc.out.keptC hD.2 (by omega))
      have hz5 := hD.2.size
      clear hD HO8 HOc HCc HKc HSc HAc
      cases q
      · obtain ⟨S, hS⟩ := spots_own (n := 6) HS5.out (lo := w.heap.size) (by omega) (Nat.le_refl 6)
        have HG := Lib.hid (l15Good_any (some ⟨w3.heap.size, 0, none⟩) 6 6 S (some ⟨b8, 0, none⟩) (m + 1) c8 (putT T m (tri3 a0 a1 a2)) w5 hS.sl (own_flat HN5.out).sl (by decide) (by omega))
        generalize meshB S 6 (putT T m (tri3 a0 a1 a2)) (m + 1) = g at HG
        clear hS
        go_wp2_with fail
        refine HG.out.mono ?_
        rintro e w6 ⟨rfl, hbw6⟩
        have hz6 := hbw6.size
        have HO6 := Lib.hid (ownsRow_below HO5.out hbw6)
        have HN6 := Lib.hid (ownsRow_below HN5.out hbw6)
        have HK6 := Lib.hid (HK5.out.laterB hbw6)
        have HC6 := Lib.hid (HC5.out.below hbw6)
        have HS6 := Lib.hid (HS5.out.below hbw6 HS5.out.lt)
        have HA6 := Lib.hid (HA5.out.below hbw6 HA5.out.lt)
        clear HO5 HN5 HK5 HC5 HS5 HA5 HG hbw6
        cases g
        · go_wp2_with fail
          refine (HON.out (K + 6 + 6 * i + 2) 32 _ (by omega) HC6.out (by decide)).mono ?_
          rintro e w7 ⟨q, rfl, hD⟩
          have HO7 := Lib.hid (ownsRow_keptC HO6.out hD.2 hbl)
          have HN7 := Lib.hid (ownsRow_keptC HN6.out hD.2 hbl)
          have HK7 := Lib.hid (HK6.out.trans1 hD.2)
          have HC7 := Lib.hid hD.1
          have HS7 := Lib.hid (HS6.out.keptC hD.2 (by omega))
          have HA7 := Lib.hid (HA6.out.keptC hD.2 (by omega))
          have hz7 := hD.2.size
          clear hD HO6 HN6 HK6 HC6 HS6 HA6
          cases q
          · go_wp2
            go_roundw
            case rel => exact ⟨i + 1, m, b6, c6, T, by go_num, by omega, rfl, by omega, HO7.out, HC7.out.more (by omega), HK7.out, HS7.out, HA7.out, by omega⟩
            case measure => simp [intOf]; omega
          · go_wp2
            go_roundw
            case rel => exact ⟨i + 1, m + 1, b8, c8, _, by go_num, by omega, rfl, by omega, HN7.out, HC7.out.more (by omega), HK7.out, HS7.out, HA7.out, by omega⟩
            case measure => simp [intOf]; omega
        · go_wp2
          go_roundw
          case rel => exact ⟨i + 1, m + 1, b8, c8, _, by go_num, by omega, rfl, by omega, HN6.out, HC6.out.more (by omega), HK6.out, HS6.out, HA6.out, by omega⟩
          case measure => simp [intOf]; omega
      · go_wp2
        go_roundw
        case rel => exact ⟨i + 1, m, b6, c6, T, by go_num, by omega, rfl, by omega, HO5.out, HC5.out.more (by omega), HK5.out, HS5.out, HA5.out, by omega⟩
        case measure => simp [intOf]; omega
    · obtain rfl : i = 8 := by omega
      go_wp2_with fail
      refine (HPK.out (K + 6 + 6 * 8) 24 _ (by omega) hC.out (by decide)).mono ?_
      rintro e w5 ⟨u, rfl, u0, u1, hD⟩
      have HO5 := Lib.hid (ownsRow_keptC hO.out hD.2 hbl)
      have HK5 := Lib.hid (hKp.out.trans1 hD.2)
      have HC5 := Lib.hid hD.1
      have HS5 := Lib.hid (hSB'.out.keptC hD.2 (by omega))
      have hz5 := hD.2.size
      clear hD hO hC hKp hSB' hAB
      by_cases h0 : u = 0
      · subst h0
        go_wp2_with fail
        refine (HAM.out (K + 6 + 6 * 8 + 2) w5.heap.size 3 3 [0, 3, -1] _ (by omega) (HC5.out.below (by repeat' (first | (with_reducible exact Below.refl _ _) | (with_reducible assumption) | (with_reducible refine Below.alloc ?_ ?_ _) | (with_reducible refine Below.drew ?_) | (with_reducible refine Below.setCell ?_ ?_ _) | (with_reducible refine Below.stepB (by assumption) ?_ ?_) | go_size))) ?_ (by omega) (by decide) (by decide) (by decide)).mono ?_
        · exact blk_newC _ (by simp)
        rintro e w6 ⟨z1, rfl, -, hD⟩
        have HO6 := Lib.hid (ownsRow_keptC (HO5.out.alloc _) hD.2 hbl)
        have HS6 := Lib.hid ((HS5.out.alloc _).keptC hD.2 (by omega))
        have HK6 := Lib.hid ((HK5.out.onB (show Below w.heap.size w5 _ from by repeat' (first | (with_reducible exact Below.refl _ _) | (with_reducible assumption) | (with_reducible refine Below.alloc ?_ ?_ _) | (with_reducible refine Below.drew ?_) | (with_reducible refine Below.setCell ?_ ?_ _) | (with_reducible refine Below.stepB (by assumption) ?_ ?_) | go_size))).trans1 hD.2)
        have HC6 := Lib.hid hD.1
        have hz6 := hD.2.size
        (try simp at hz6)
        clear hD
        go_wp2_with fail
        refine (HAM.out (K + 6 + 6 * 8 + 4) w6.heap.size 3 3 [4, 5, 6] _ (by omega) (HC6.out.below (by repeat' (first | (with_reducible exact Below.refl _ _) | (with_reducible assumption) | (with_reducible refine Below.alloc ?_ ?_ _) | (with_reducible refine Below.drew ?_) | (with_reducible refine Below.setCell ?_ ?_ _) | (with_reducible refine Below.stepB (by assumption) ?_ ?_) | go_size))) ?_ (by omega) (by decide) (by decide) (by decide)).mono ?_
        · exact blk_newC _ (by simp)
        rintro e w7 ⟨z2, rfl, -, hD⟩
        have HO7 := Lib.hid (ownsRow_keptC (HO6.out.alloc _) hD.2 hbl)
        have HS7 := Lib.hid ((HS6.out.alloc _).keptC hD.2 (by omega))
        have HK7 := Lib.hid ((HK6.out.onB (show Below w.heap.size w6 _ from by repeat' (first | (with_reducible exact Below.refl _ _) | (with_reducible assumption) | (with_reducible refine Below.alloc ?_ ?_ _) | (with_reducible refine Below.drew ?_) | (with_reducible refine Below.setCell ?_ ?_ _) | (with_reducible refine Below.stepB (by assumption) ?_ ?_) | go_size))).trans1 hD.2)
        have HC7 := Lib.hid hD.1
        have hz7 := hD.2.size
        (try simp at hz7)
        clear hD
        go_wp2_with (at_builtin; refine wpList_append_rowK _ rfl _ _ 32 rfl w.heap.size 41 q0 _ 3 24 Try.underlying32 hq0 hy0 hy1 hy2 rfl (by decide) (.slice (some ⟨b6, 0, none⟩) m c6) m (rowT T m) rfl ((HO7.out.alloc _)) (by simp) _ 0 1 1 (fun _ j => .int .i64 (tri3 z1 z2 2 j)) rfl ?_ (fun _ j => rfl) (by omega) (by decide) ?_ ?_; go_must (focus exact tri_box (blk_newC _ rfl)); go_must (focus (first | omega | (simp; omega) | (simp; done))); intro b9 c9 w9 hO9 hc9 hb9 hbw9 hk9; have hz9 := hbw9.size; (try simp at hz9))
        rw [rowT_snoc] at hO9
        obtain ⟨S, hS⟩ := spots_own (n := 6) (show Blk w9 w3.heap.size 26 ((spoL y1 x3 y4).map (Value.int .i64)).toArray from (hk9 _ (by simp; omega) (by simp [Value.ownBlock]; exact ownsRow_ne HO7.out HS7.out (by decide))).trans (HS7.out.alloc _)) (lo := w.heap.size) (by omega) (Nat.le_refl 6)
        go_ret2
        exact ⟨6, w3.heap.size, 6, S, m + 1, b9, c9, _, rfl, by omega, by omega, by omega, hc9, hS, own_flat hO9, (HC7.out.belowB (B := w.heap.size) (by repeat' (first | (with_reducible exact Below.refl _ _) | (with_reducible assumption) | (with_reducible refine Below.alloc ?_ ?_ _) | (with_reducible refine Below.drew ?_) | (with_reducible refine Below.setCell ?_ ?_ _) | (with_reducible refine Below.stepB (by assumption) ?_ ?_) | go_size)) hbl).more (by omega), HK7.out.onB (by repeat' (first | (with_reducible exact Below.refl _ _) | (with_reducible assumption) | (with_reducible refine Below.alloc ?_ ?_ _) | (with_reducible refine Below.drew ?_) | (with_reducible refine Below.setCell ?_ ?_ _) | (with_reducible refine Below.stepB (by assumption) ?_ ?_) | go_size))⟩
      · have hu0 : (u == 0) = false := by simpa using h0
        by_cases h1 : u = 1
        · subst h1
          go_wp2_with fail
          refine (HPK.out (K + 6 + 6 * 8 + 2) 5 _ (by omega) HC5.out (by decide)).mono ?_
          rintro e w6 ⟨z, rfl, z0, z1, hD⟩
          have HO6 := Lib.hid (ownsRow_keptC HO5.out hD.2 hbl)
          have HS6 := Lib.hid (HS5.out.keptC hD.2 (by omega))
          have HK6 := Lib.hid (HK5.out.trans1 hD.2)
          have HC6 := Lib.hid hD.1
          have hz6 := hD.2.size
          clear hD
          obtain ⟨k, rfl⟩ : ∃ k : Nat, z = k := ⟨z.toNat, by omega⟩
          have hk5 : k < 5 := by omega
          have y0 := list_cell HS6.out (k := k * 2) (by simp [spoL]; omega)
          have y1' := list_cell HS6.out (k := k * 2 + 1) (by simp [spoL]; omega)
          have d0 := list_cell HS6.out (k := 10) (by simp [spoL])
          have d1 := list_cell HS6.out (k := 11) (by simp [spoL])
          have sf := HS6.out.frozen
          have sl := HS6.out.lt
          generalize (spoL y1 x3 y4).getD (k * 2) 0 = v0 at y0
          generalize (spoL y1 x3 y4).getD (k * 2 + 1) 0 = v1 at y1'
          generalize (spoL y1 x3 y4).getD 10 0 = v2 at d0
          generalize (spoL y1 x3 y4).getD 11 0 = v3 at d1
          obtain ⟨S, hS⟩ := own_spots (n := 6) (lo := w.heap.size) ((HS6.out.set_ 10 (.int .i64 v0)).set_ 11 (.int .i64 v1)) (by omega) (by simp [spoL]) (fun q hq => by
            by_cases h11 : q = 11
            · subst h11; exact ⟨v1, by simp [spoL]⟩
            · by_cases h10 : q = 10
              · subst h10; exact ⟨v0, by simp [spoL]⟩
              · exact ⟨(spoL y1 x3 y4).getD q 0, by
                  rw [Array.getElem?_setIfInBounds_ne (by omega), Array.getElem?_setIfInBounds_ne (by omega)]
                  simp [List.getD, show q < (spoL y1 x3 y4).length by simp [spoL]; omega]⟩)
          have HSS := Lib.hid hS
          have HOO := Lib.hid (ownsRow_other (o := 11) (u := .int .i64 v1) (ownsRow_other (o := 10) (u := .int .i64 v0) HO6.out HS6.out (by decide)) (HS6.out.set_ 10 _) (by decide))
          clear hS h0 z0 z1
          go_wp2
          go_ret2
          exact ⟨6, w3.heap.size, 6, S, m, b6, c6, T, rfl, by omega, by omega, by omega, ownsRow_capM HOO.out, HSS.out, own_flat HOO.out, (HC6.out.belowB (B := w.heap.size) (by repeat' (first | (with_reducible exact Below.refl _ _) | (with_reducible assumption) | (with_reducible refine Below.alloc ?_ ?_ _) | (with_reducible refine Below.drew ?_) | (with_reducible refine Below.setCell ?_ ?_ _) | (with_reducible refine Below.stepB (by assumption) ?_ ?_) | go_size)) hbl).more (by omega), HK6.out.onB (by repeat' (first | (with_reducible exact Below.refl _ _) | (with_reducible assumption) | (with_reducible refine Below.alloc ?_ ?_ _) | (with_reducible refine Below.drew ?_) | (with_reducible refine Below.setCell ?_ ?_ _) | (with_reducible refine Below.stepB (by assumption) ?_ ?_) | go_size))⟩
        · have hu1 : (u == 1) = false := by simpa using h1
          by_cases h2 : u = 2
          · subst h2
            go_wp2_with fail
            refine (HAM.out (K + 6 + 6 * 8 + 2) w5.heap.size 3 3 [2, 3, 5] _ (by omega) (HC5.out.below (by repeat' (first | (with_reducible exact Below.refl _ _) | (with_reducible assumption) | (with_reducible refine Below.alloc ?_ ?_ _) | (with_reducible refine Below.drew ?_) | (with_reducible refine Below.setCell ?_ ?_ _) | (with_reducible refine Below.stepB (by assumption) ?_ ?_) | go_size))) ?_ (by omega) (by decide) (by decide) (by decide)).mono ?_
            · exact blk_newC _ (by simp)
            rintro e w6 ⟨z, rfl, hzm, hD⟩
            have HO6 := Lib.hid (ownsRow_keptC (HO5.out.alloc _) hD.2 hbl)
            have HS6 := Lib.hid ((HS5.out.alloc _).keptC hD.2 (by omega))
            have HK6 := Lib.hid ((HK5.out.onB (show Below w.heap.size w5 _ from by repeat' (first | (with_reducible exact Below.refl _ _) | (with_reducible assumption) | (with_reducible refine Below.alloc ?_ ?_ _) | (with_reducible refine Below.drew ?_) | (with_reducible refine Below.setCell ?_ ?_ _) | (with_reducible refine Below.stepB (by assumption) ?_ ?_) | go_size))).trans1 hD.2)
            have HC6 := Lib.hid hD.1
            have hz6 := hD.2.size
            (try simp at hz6)
            clear hD
            obtain ⟨k, rfl, hk6⟩ : ∃ k : Nat, z = k ∧ k ≤ 6 := ⟨z.toNat, by simp at hzm; omega, by simp at hzm; omega⟩
            obtain ⟨S, hS⟩ := spots_own (n := k) HS6.out (lo := w.heap.size) (by omega) hk6
            have HSS := Lib.hid hS
            clear hzm hS h0 h1
            go_wp2
            go_ret2
            exact ⟨k, w3.heap.size, 6, S, m, b6, c6, T, rfl, by omega, by omega, by omega, ownsRow_capM HO6.out, HSS.out, own_flat HO6.out, HC6.out.more (by omega), HK6.out⟩
          · have hu2 : (u == 2) = false := by simpa using h2
            obtain ⟨S, hS⟩ := spots_own (n := 6) HS5.out (lo := w.heap.size) (by omega) (Nat.le_refl 6)
            have HSS := Lib.hid hS
            clear h0 h1 h2 hS
            go_wp2
            go_ret2
            exact ⟨6, w3.heap.size, 6, S, m, b6, c6, T, rfl, by omega, by omega, by omega, ownsRow_capM HO5.out, HSS.out, own_flat HO5.out, HC5.out.more (by omega), HK5.out⟩
end Go.Proofs.Ytfflbkmncnaffaa
