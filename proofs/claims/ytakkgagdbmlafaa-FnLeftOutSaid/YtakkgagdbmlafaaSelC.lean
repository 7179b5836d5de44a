/- Contracts of the functions that tell for which soundings no chosen one stands. -/
import Derived.Test.YtakkgagdbmlafaaSelB
import Derived.Test.YtakkgagdbmlafaaOuts
namespace Go.Proofs.Ytakkgagdbmlafaa
open Go.RowKit
theorem standsFor_any (a b : SD) (r : Int) (w : World) (ha : okN a = true) (hb : okN b = true) (hr : inB r 1 1000 = true) : Calls Try.prog 92 #[.agg #[.int .i64 a.id, .int .i64 a.x, .int .i64 a.y, .int .i64 a.depth, .int .i64 a.doubt], .agg #[.int .i64 b.id, .int .i64 b.x, .int .i64 b.y, .int .i64 b.depth, .int .i64 b.doubt], .int .i64 r] w
    fun e w' => e = .returned (.bool (standB r a b)) ∧ Below w.heap.size w w' := by
  have hsq := fun W => squareOf_any a.x a.y b.x b.y W (okN_spot ha) (okN_spot hb)
  have hl1 := fun W => leastOf_any a W ha
  have hl2 := fun W => leastOf_any b W hb
  unfold standB nearB
  obtain ⟨r1, r2⟩ := rad_bd hr
  have HRW : Hid (IntKind.i64.wrap (r * r) = r * r) := by show _ = _; rw [IntKind.wrap_i64]; omega
  generalize sqD a.x a.y b.x b.y = s at hsq ⊢
  generalize lowV a = l1 at hl1 ⊢
  generalize lowV b = l2 at hl2 ⊢
  have HSQ := Lib.hid hsq
  have HL1 := Lib.hid hl1
  have HL2 := Lib.hid hl2
  clear hsq hl1 hl2 ha hb hr
  by_cases hs : s ≤ r * r
  · have hd : decide (s ≤ r * r) = true := by simpa using hs
    go_enter Try.func92, Try.ntmps92
    have hrw := HRW.out
    go_wp2_with fail
    refine wp_region_later (by kernel_rfl) (by kernel_rfl) (fun hlx => ?_)
    repeat (go_big_quiet_step ((first | (go_at_call 100; with_reducible exact Later.call (HSQ.out _)) | (go_at_call 74; with_reducible exact Later.call (HL1.out _)) | (go_at_call 74; with_reducible exact Later.call (HL2.out _)))))
    refine wpQuiet_nil ?_
    clear hlx
    intro w4 hbw4
    obtain ⟨hzw4, hcw4, hfw4⟩ := bfacts hbw4; (try simp at hzw4 hcw4 hfw4); (try (have : w.heap.size < w4.heap.size := by omega)); (try (have : w.heap.size + 1 < w4.heap.size := by omega)); (try (have : w.heap.size + 1 + 1 < w4.heap.size := by omega)); (try (have : w.heap.size + 1 + 1 + 1 < w4.heap.size := by omega))
    clear hrw
    go_wp2
    go_ret
    exact ⟨ret_bool (by simp [hs]), by repeat' (first | (with_reducible exact Below.refl _ _) | (with_reducible assumption) | (with_reducible refine Below.alloc ?_ ?_ _) | (with_reducible refine Below.drew ?_) | (with_reducible refine Below.setCell ?_ ?_ _) | (with_reducible refine Below.stepB (by assumption) ?_ ?_) | go_size)⟩
  · have hd : decide (s ≤ r * r) = false := by simpa using hs
    go_enter Try.func92, Try.ntmps92
    have hrw := HRW.out
    go_wp2_with fail
    refine wp_region_later (by kernel_rfl) (by kernel_rfl) (fun hlx => ?_)
    repeat (go_big_quiet_step ((first | (go_at_call 100; with_reducible exact Later.call (HSQ.out _)) | (go_at_call 74; with_reducible exact Later.call (HL1.out _)) | (go_at_call 74; with_reducible exact Later.call (HL2.out _)))))
    refine wpQuiet_nil ?_
    clear hlx
    intro w4 hbw4
    obtain ⟨hzw4, hcw4, hfw4⟩ := bfacts hbw4; (try simp at hzw4 hcw4 hfw4); (try (have : w.heap.size < w4.heap.size := by omega)); (try (have : w.heap.size + 1 < w4.heap.size := by omega)); (try (have : w.heap.size + 1 + 1 < w4.heap.size := by omega)); (try (have : w.heap.size + 1 + 1 + 1 < w4.heap.size := by omega))
    clear hrw
    go_wp2
    go_ret
    exact ⟨ret_bool (by rw [hd]; rfl), by repeat' (first | (with_reducible exact Below.refl _ _) | (with_reducible assumption) | (with_reducible refine Below.alloc ?_ ?_ _) | (with_reducible refine Below.drew ?_) | (with_reducible refine Below.setCell ?_ ?_ _) | (with_reducible refine Below.stepB (by assumption) ?_ ?_) | go_size)⟩
theorem l16Stands_any (a b : SD) (r : Int) (w : World) (ha : okN a = true) (hb : okN b = true) (hr : inB r 1 1000 = true) : Calls Try.prog 96 #[.agg #[.int .i64 a.id, .int .i64 a.x, .int .i64 a.y, .int .i64 a.depth, .int .i64 a.doubt], .agg #[.int .i64 b.id, .int .i64 b.x, .int .i64 b.y, .int .i64 b.depth, .int .i64 b.doubt], .int .i64 r] w
    fun e w' => e = .returned (.bool (standB r a b)) ∧ Below w.heap.size w w' := by
  have hsq := fun W => l16Near_any a b r W ha hb hr
  have hl1 := fun W => l8Low_any a W ha
  have hl2 := fun W => l8Low_any b W hb
  unfold standB
  generalize nearB r a b = s at hsq ⊢
  generalize lowV a = l1 at hl1 ⊢
  generalize lowV b = l2 at hl2 ⊢
  have HSQ := Lib.hid hsq
  have HL1 := Lib.hid hl1
  have HL2 := Lib.hid hl2
  clear hsq hl1 hl2 ha hb hr
  cases s
  all_goals
    go_enter Try.func96, Try.ntmps96
    go_wp2_with fail
    refine wp_region_later (by kernel_rfl) (by kernel_rfl) (fun hlx => ?_)
    repeat (go_big_quiet_step ((first | (go_at_call 102; with_reducible exact Later.call (HSQ.out _)) | (go_at_call 66; with_reducible exact Later.call (HL1.out _)) | (go_at_call 66; with_reducible exact Later.call (HL2.out _)))))
    refine wpQuiet_nil ?_
    clear hlx
    intro w4 hbw4
    obtain ⟨hzw4, hcw4, hfw4⟩ := bfacts hbw4; (try simp at hzw4 hcw4 hfw4); (try (have : w.heap.size < w4.heap.size := by omega)); (try (have : w.heap.size + 1 < w4.heap.size := by omega)); (try (have : w.heap.size + 1 + 1 < w4.heap.size := by omega)); (try (have : w.heap.size + 1 + 1 + 1 < w4.heap.size := by omega))
    go_wp2
    go_ret
    exact ⟨ret_bool (by simp), by repeat' (first | (with_reducible exact Below.refl _ _) | (with_reducible assumption) | (with_reducible refine Below.alloc ?_ ?_ _) | (with_reducible refine Below.drew ?_) | (with_reducible refine Below.setCell ?_ ?_ _) | (with_reducible refine Below.stepB (by assumption) ?_ ?_) | go_size)⟩
theorem opnFn_any (id : Int) (A : Option Addr) (n c : Nat) (f : Nat → SD) (s : SD) (r : Int) (q B1 B2 B3 : Nat) (w : World) (hB1 : B1 < w.heap.size) (hB2 : B2 < w.heap.size) (hB3 : B3 < w.heap.size)
    (h1 : w.cell? ⟨B1, 0, none⟩ = some (.slice A n c)) (h2 : w.cell? ⟨B2, 0, none⟩ = some (.int .i64 s.id) ∧ w.cell? ⟨B2, 1, none⟩ = some (.int .i64 s.x) ∧ w.cell? ⟨B2, 2, none⟩ = some (.int .i64 s.y) ∧ w.cell? ⟨B2, 3, none⟩ = some (.int .i64 s.depth) ∧ w.cell? ⟨B2, 4, none⟩ = some (.int .i64 s.doubt))
    (h3 : w.cell? ⟨B3, 0, none⟩ = some (.int .i64 r)) (hS : SlSD w A n f) (hn : n ≤ 1048576) (hq : q < n) (hid : idxId f n id = (q : Int)) (ha : okN (f q) = true) (hb : okN s = true) (hr : inB r 1 1000 = true) :
    Calls Try.prog 91 #[.int .i64 id, .pointer (some ⟨B1, 0, none⟩), .pointer (some ⟨B2, 0, none⟩), .pointer (some ⟨B3, 0, none⟩)] w fun e w' => e = .returned (.bool (standB r (f q) s)) ∧ Below w.heap.size w w' := by
  obtain ⟨y0, y1, y2, y3, y4⟩ := h2
  obtain ⟨b, off, rfl, hbl, hbl', x0, x1, x2, x3, x4, hx⟩ := hS.at (Below.refl _ _) hq
  have f1 := fun (W : World) (hbW : Below w.heap.size w W) => soundingIndex_any (some ⟨b, off, none⟩) n c f id W (hS.below hbW) hn
  rw [hid] at f1
  have F1 := Lib.hid f1
  have HST := Lib.hid (fun W => standsFor_any (f q) s r W ha hb hr)
  clear f1 hid ha hb hr hS hx
  go_enter Try.func91, Try.ntmps91
  go_wp2_with fail
  refine wp_region_later (by kernel_rfl) (by kernel_rfl) (fun hlx => ?_)
  repeat (go_big_quiet_step ((first | (go_at_call 55; with_reducible exact Later.call (F1.out _ (Later.below _))) | (go_at_call 92; with_reducible exact Later.call (HST.out _)))))
  refine wpQuiet_nil ?_
  clear hlx
  intro w4 hbw4
  obtain ⟨hzw4, hcw4, hfw4⟩ := bfacts hbw4; (try simp at hzw4 hcw4 hfw4); (try (have : w.heap.size < w4.heap.size := by omega)); (try (have : w.heap.size + 1 < w4.heap.size := by omega)); (try (have : w.heap.size + 1 + 1 < w4.heap.size := by omega)); (try (have : w.heap.size + 1 + 1 + 1 < w4.heap.size := by omega))
  go_wp2
  go_ret
  exact ⟨rfl, by repeat' (first | (with_reducible exact Below.refl _ _) | (with_reducible assumption) | (with_reducible refine Below.alloc ?_ ?_ _) | (with_reducible refine Below.drew ?_) | (with_reducible refine Below.setCell ?_ ?_ _) | (with_reducible refine Below.stepB (by assumption) ?_ ?_) | go_size)⟩
theorem enters_opnFn : ∀ args w, (callFunc 91 args).run Try.prog w = .ok (.enter 91 args) w := enters_of Try.func91 (by kernel_rfl) rfl
def sdList (s : SD) : List Value := [.int .i64 s.id, .int .i64 s.x, .int .i64 s.y, .int .i64 s.depth, .int .i64 s.doubt]
def sdCells (L : List SD) : List Value := L.flatMap sdList
def noSD : SD := ⟨0, 0, 0, 0, 0⟩
theorem sdCells_snoc (L : List SD) (s : SD) : sdCells (L ++ [s]) = sdCells L ++ sdList s := by simp [sdCells]
theorem sdCells_get : ∀ (L : List SD) (i j : Nat), i < L.length → j < 5 → (sdCells L)[i * 5 + j]? = some ((L.getD i noSD).cell j)
  | [], i, j, h, _ => absurd h (by simp)
  | p :: L, 0, j, _, hj => by
    have : j = 0 ∨ j = 1 ∨ j = 2 ∨ j = 3 ∨ j = 4 := by omega
    rcases this with rfl | rfl | rfl | rfl | rfl <;> simp [sdCells, sdList, SD.cell]
  | p :: L, i + 1, j, h, hj => by
    have ih := sdCells_get L i j (by simp at h; omega) hj
    have e : (i + 1) * 5 + j = (i * 5 + j) + 5 := by omega
    rw [e]
    simpa [sdCells, sdList] using ih
theorem ownSD_of {w : World} {base : Nat} {e : TypeId} {A : Option Addr} {n c : Nat} {L : List SD} (hn : n = L.length) (h : w.ownsRow base e 5 (.slice A n c) n (sdCells L)) : Own w base 5 A n (fun i j => (L.getD i noSD).cell j) := by
  subst hn
  exact ownsRow_own h (fun i j hi hj => sdCells_get L i j hi hj)
theorem wpList_append_sd {P : Program} (w : World) {ops : Array Oper} {rest : List Oper} {o : Oper} {a : Act} {Q : Exit → Act → World → Prop} (hgd : o.guard = none) (s x : Operand) (t : TypeId)
    (ho : o.op = .call { callee := .builtin .append, args := #[s, x], argTypes := #[t, t] })
    (base : Nat) (e : TypeId) (i : TypeInfo) (ht : P.underlying t = some (.slice e)) (hi : P.info? e = some i) (hz : i.zero = some (.agg #[.int .i64 0, .int .i64 0, .int .i64 0, .int .i64 0, .int .i64 0])) (hsize : i.size = 5) (hby : i.bytes = 40)
    (v : Value) (n : Nat) (xs : List Value) (hs : a.eval s = v) (hown : w.ownsRow base e 5 v n xs)
    (b : Nat) (c : Nat) (d : SD) (hx : a.eval x = .slice (some ⟨b, 0, none⟩) 1 c) (hy : ∀ j, j < 5 → w.cell? ⟨b, j, none⟩ = some (d.cell j)) (hn : n ≤ 1048576) (hbase : base ≤ w.heap.size)
    (h : ∀ v' w', w'.ownsRow base e 5 v' (n + 1) (xs ++ sdList d) → Below base w w' → wpList P ops Q rest (a.put o.dst v') w') : wpList P ops Q (o :: rest) a w := by
  refine wpList_append_own w hgd s x t ho base e i (.agg #[.int .i64 0, .int .i64 0, .int .i64 0, .int .i64 0, .int .i64 0]) 5 40 ht hi hz hsize hby rfl (by decide) v n xs hs hown ⟨b, 0, none⟩ 1 c (sdList d) hx rfl ?_ ?_ (by unfold maxLen; omega) (by omega) hbase ?_
  · intro j u hu
    have hj : j < 5 := by
      have := (List.getElem?_eq_some_iff.1 hu).1
      simpa [sdList] using this
    have h1 := hy j hj
    have : j = 0 ∨ j = 1 ∨ j = 2 ∨ j = 3 ∨ j = 4 := by omega
    rcases this with rfl | rfl | rfl | rfl | rfl <;> simp [sdList] at hu <;> subst hu <;> simpa [Addr.add, SD.cell] using h1
  · intro u hu
    simp [sdList] at hu
    rcases hu with rfl | rfl | rfl | rfl | rfl <;> rfl
  · intro v' w' h1 h2 _
    refine h v' w' h1 ((Below.refl base w).grown h2 hbase ?_)
    intro k hk
    rcases hown.2 with ⟨rfl, _⟩ | ⟨g, cap, cur, rfl, hg, _⟩
    · simp [Value.ownBlock] at hk
    · simp [Value.ownBlock] at hk
      omega
theorem own_sd {w : World} {base : Nat} {e : TypeId} {v : Value} {L : List SD} {z : SD} (h : w.ownsRow base e 5 v (L.length + 1) (sdCells L ++ sdList z)) : w.ownsRow base e 5 v (L ++ [z]).length (sdCells (L ++ [z])) := by
  rw [sdCells_snoc]; simpa using h
/-- a slice of soundings of one's own -/
def SDsOut (w : World) (L : List SD) (e : Ending) (w' : World) : Prop :=
  ∃ A' c', e = .returned (.slice A' L.length c') ∧ Own w' w.heap.size 5 A' L.length (fun i j => (L.getD i noSD).cell j) ∧ Below w.heap.size w w'
theorem SDsOut.row {w w' : World} {base : Nat} {t : TypeId} {A : Option Addr} {c : Nat} {L L' : List SD} (hO : w'.ownsRow base t 5 (.slice A L'.length c) L'.length (sdCells L'))
    (hL : L = L') (hB : w.heap.size ≤ base) (hb : Below w.heap.size w w') : SDsOut w L (.returned (.slice A L'.length c)) w' := by
  subst hL
  exact ⟨_, _, rfl, (ownSD_of rfl hO).more hB, hb⟩
/-- a slice of numbers of one's own -/
def IntOut (w : World) (L : List Int) (e : Ending) (w' : World) : Prop :=
  ∃ A' c', e = .returned (.slice A' L.length c') ∧ OwnI w' w.heap.size A' L.length (fun i => L.getD i 0) ∧ Below w.heap.size w w'
theorem IntOut.row {w w' : World} {base : Nat} {t : TypeId} {A : Option Addr} {c : Nat} {L L' : List Int} (hO : w'.ownsRow base t 1 (.slice A L'.length c) L'.length (L'.map (Value.int .i64)))
    (hL : L = L') (hB : w.heap.size ≤ base) (hb : Below w.heap.size w w') : IntOut w L (.returned (.slice A L'.length c)) w' := by
  subst hL
  exact ⟨_, _, rfl, (ownI_of rfl hO).more hB, hb⟩
theorem sd_cell_at {w : World} {b : Nat} {s : SD} (c0 : w.cell? ⟨b, 0, none⟩ = some (.int .i64 s.id)) (c1 : w.cell? ⟨b, 1, none⟩ = some (.int .i64 s.x)) (c2 : w.cell? ⟨b, 2, none⟩ = some (.int .i64 s.y)) (c3 : w.cell? ⟨b, 3, none⟩ = some (.int .i64 s.depth)) (c4 : w.cell? ⟨b, 4, none⟩ = some (.int .i64 s.doubt)) :
    ∀ j, j < 5 → w.cell? ⟨b, j, none⟩ = some (s.cell j) := fun j hj => by
  have : j = 0 ∨ j = 1 ∨ j = 2 ∨ j = 3 ∨ j = 4 := by omega
  rcases this with rfl | rfl | rfl | rfl | rfl <;> assumption
theorem ownsRow_emptyAt {g : Nat} (w : World) (e : TypeId) (size : Nat) (hg : g = w.heap.size) : (w.alloc (.cells #[] e)).ownsRow g e size (.slice (some ⟨g, 0, none⟩) 0 0) 0 [] := by
  subst hg
  exact ownsRow_empty w e size
theorem blk_at {g : Nat} (w : World) (t : TypeId) (cs : Array Value) (hg : g = w.heap.size) : Blk (w.alloc (.cells cs t)) g t cs := by
  subst hg
  exact Blk.new w t cs
set_option maxHeartbeats 1000000 in
theorem notStoodFor_any (A : Option Addr) (n c : Nat) (f : Nat → SD) (A2 : Option Addr) (n2 c2 : Nat) (L2 : Nat → Int) (r : Int) (w : World) (hS : SlSD w A n f) (hS2 : SlI w A2 n2 L2) (hn : n ≤ 1048576) (hn2 : n2 ≤ 1048576)
    (hg : goodNAll f n = true) (hfnd : fndB f n L2 n2 = true) (hr : inB r 1 1000 = true) : Calls Try.prog 60 #[.slice A n c, .slice A2 n2 c2, .int .i64 r] w fun e w' => SDsOut w (openS f n L2 n2 r) e w' := by
  have HG := Lib.hid (goodN_lt (goodNAll_iff.1 hg).1)
  have HF := Lib.hid (fun k hk => fndB_at (k := k) hfnd hk)
  have HS := Lib.hid hS
  have HS2 := Lib.hid hS2
  have HR := Lib.hid hr
  clear hg hfnd hr hS2
  obtain ⟨i0, hi0, hz0, hz1, hz2⟩ := info_parts info_Sounding
  have HI0 := Lib.hid (And.intro hi0 (And.intro hz0 (And.intro hz1 hz2)))
  clear hi0 hz0 hz1 hz2
  go_enter Try.func60, Try.ntmps60
  go_wp2
  go_loopw [7, 13] (fun v7 vc wr => ∃ k : Nat, k ≤ n ∧ vc = .int .i64 k ∧ wr.ownsRow (w.heap.size + 2) 57 5 v7 (pick (openP f n L2 n2 r) f k).length (sdCells (pick (openP f n L2 n2 r) f k)) ∧ wr.cell? ⟨w.heap.size, 0, none⟩ = some (.slice A n c) ∧ wr.cell? ⟨w.heap.size + 1, 0, none⟩ = some (.int .i64 r) ∧ w.heap.size + 2 ≤ wr.heap.size ∧ Below w.heap.size w wr) (fun _ vc _ => n - (intOf vc).toNat)
  case atStart => exact ⟨0, Nat.zero_le _, rfl, ownsRow_emptyAt _ 57 5 (by simp), (((blk_at w _ _ rfl).alloc _).alloc _).cell 0, ((blk_at (w.alloc _) _ _ (by simp)).alloc _).cell 0, by simp, by repeat' (first | (with_reducible exact Below.refl _ _) | (with_reducible assumption) | (with_reducible refine Below.alloc ?_ ?_ _) | (with_reducible refine Below.drew ?_) | (with_reducible refine Below.setCell ?_ ?_ _) | (with_reducible refine Below.stepB (by assumption) ?_ ?_) | go_size)⟩
  case round =>
    obtain ⟨k, hk, rfl, hO, hl0, hr0, hzz, hbr⟩ := hrel
    obtain ⟨hi0, hz0, hz1, hz2⟩ := HI0.out
    have hzr := hbr.size
    obtain ⟨A7, c7, rfl⟩ := ownsRow_form hO
    have hlen := pick_len (p := openP f n L2 n2 r) (h := f) k
    have HO := Lib.hid hO
    clear hO
    by_cases hlt : k < n
    · have hok := HG.out k hlt
      obtain ⟨b, off, rfl, hbl, hbl', x0, x1, x2, x3, x4, hx⟩ := hS.at hbr hlt
      clear hx hS
      have HC := Lib.hid (fun (W : World) (hW : wr.heap.size < W.heap.size) (hbW : Below (w.heap.size + 2) wr W) (y0 : W.cell? ⟨wr.heap.size, 0, none⟩ = some (.int .i64 (f k).id)) (y1 : W.cell? ⟨wr.heap.size, 1, none⟩ = some (.int .i64 (f k).x)) (y2 : W.cell? ⟨wr.heap.size, 2, none⟩ = some (.int .i64 (f k).y)) (y3 : W.cell? ⟨wr.heap.size, 3, none⟩ = some (.int .i64 (f k).depth)) (y4 : W.cell? ⟨wr.heap.size, 4, none⟩ = some (.int .i64 (f k).doubt)) =>
        hasInts_any A2 n2 c2 L2 (fun id => standB r (atId f n id) (f k)) 91 #[.pointer (some ⟨w.heap.size, 0, none⟩), .pointer (some ⟨wr.heap.size, 0, none⟩), .pointer (some ⟨w.heap.size + 1, 0, none⟩)] W (HS2.out.below (hbr.trans (hbW.mono (by omega)))) hn2 enters_opnFn (fun j W' hj hbW' => by
          obtain ⟨q, hq, e, -⟩ := HF.out j hj
          have hzW := hbW'.size
          rw [show standB r (atId f n (L2 j)) (f k) = standB r (f q) (f k) from by rw [atId_of e]]
          have cl := fun p (hp : p < W.heap.size) o => hbW'.cell (p := ⟨p, o, none⟩) hp
          have cw := fun p (hp : p < w.heap.size + 2) o => hbW.cell (p := ⟨p, o, none⟩) hp
          exact opnFn_any (L2 j) (some ⟨b, off, none⟩) n c f (f k) r q w.heap.size wr.heap.size (w.heap.size + 1) W' (by omega) (by omega) (by omega) ((cl _ (by omega) _).trans ((cw _ (by omega) _).trans hl0)) ⟨(cl _ hW _).trans y0, (cl _ hW _).trans y1, (cl _ hW _).trans y2, (cl _ hW _).trans y3, (cl _ hW _).trans y4⟩
            ((cl _ (by omega) _).trans ((cw _ (by omega) _).trans hr0)) (HS.out.below ((hbr.trans (hbW.mono (by omega))).trans (hbW'.mono (by omega)))) hn hq e (HG.out q hq) hok HR.out))
      have HP : Hid (openP f n L2 n2 r k = !hasP (fun i => standB r (atId f n (L2 i)) (f k)) n2) := rfl
      generalize hasP (fun i => standB r (atId f n (L2 i)) (f k)) n2 = t at HC HP
      clear hok
      cases t
      · go_wp2_with fail
        refine (HC.out _ (by simp) (by repeat' (first | (with_reducible exact Below.refl _ _) | (with_reducible assumption) | (with_reducible refine Below.alloc ?_ ?_ _) | (with_reducible refine Below.drew ?_) | (with_reducible refine Below.setCell ?_ ?_ _) | (with_reducible refine Below.stepB (by assumption) ?_ ?_) | go_size)) (by simp) (by simp) (by simp) (by simp) (by simp)).mono ?_
        rintro e w4 ⟨rfl, hbw4⟩
        obtain ⟨hzw4, hcw4, hfw4⟩ := bfacts hbw4; (try simp at hzw4 hcw4 hfw4); (try (have : w.heap.size < w4.heap.size := by omega)); (try (have : w.heap.size + 1 < w4.heap.size := by omega)); (try (have : w.heap.size + 1 + 1 < w4.heap.size := by omega)); (try (have : w.heap.size + 1 + 1 + 1 < w4.heap.size := by omega))
        have hO4 := Lib.hid (ownsRow_below HO.out (by repeat' (first | (with_reducible exact Below.refl _ _) | (with_reducible assumption) | (with_reducible refine Below.alloc ?_ ?_ _) | (with_reducible refine Below.drew ?_) | (with_reducible refine Below.setCell ?_ ?_ _) | (with_reducible refine Below.stepB (by assumption) ?_ ?_) | go_size)) : w4.ownsRow (w.heap.size + 2) 57 5 _ _ _)
        go_wp2_with (at_builtin; refine wpList_append_sd _ rfl _ _ 26 rfl (w.heap.size + 2) 57 i0 Try.underlying26 hi0 hz0 hz1 hz2 _ _ _ rfl (hO4.out.alloc _) _ _ (f k) rfl ?_ ?_ ?_ ?_; go_must (focus (refine sd_cell_at ?_ ?_ ?_ ?_ ?_ <;> simp)); go_must (focus omega); go_must (focus (simp; omega)); intro v9 w5 hOw5 hbw5; have hzw5 := hbw5.size; (try simp at hzw5))
        have hB5 : Below (w.heap.size + 2) wr w5 := by repeat' (first | (with_reducible exact Below.refl _ _) | (with_reducible assumption) | (with_reducible refine Below.alloc ?_ ?_ _) | (with_reducible refine Below.drew ?_) | (with_reducible refine Below.setCell ?_ ?_ _) | (with_reducible refine Below.stepB (by assumption) ?_ ?_) | go_size)
        go_roundw
        case rel => exact ⟨k + 1, by omega, by go_num, by rw [pick_hit HP.out]; exact own_sd hOw5, (hB5.cell (p := ⟨w.heap.size, 0, none⟩) (by show w.heap.size < _; omega)).trans hl0, (hB5.cell (p := ⟨w.heap.size + 1, 0, none⟩) (by show w.heap.size + 1 < _; omega)).trans hr0, by omega, by repeat' (first | (with_reducible exact Below.refl _ _) | (with_reducible assumption) | (with_reducible refine Below.alloc ?_ ?_ _) | (with_reducible refine Below.drew ?_) | (with_reducible refine Below.setCell ?_ ?_ _) | (with_reducible refine Below.stepB (by assumption) ?_ ?_) | go_size)⟩
        case measure => simp [intOf]; omega
      · go_wp2_with fail
        refine (HC.out _ (by simp) (by repeat' (first | (with_reducible exact Below.refl _ _) | (with_reducible assumption) | (with_reducible refine Below.alloc ?_ ?_ _) | (with_reducible refine Below.drew ?_) | (with_reducible refine Below.setCell ?_ ?_ _) | (with_reducible refine Below.stepB (by assumption) ?_ ?_) | go_size)) (by simp) (by simp) (by simp) (by simp) (by simp)).mono ?_
        rintro e w4 ⟨rfl, hbw4⟩
        obtain ⟨hzw4, hcw4, hfw4⟩ := bfacts hbw4; (try simp at hzw4 hcw4 hfw4); (try (have : w.heap.size < w4.heap.size := by omega)); (try (have : w.heap.size + 1 < w4.heap.size := by omega)); (try (have : w.heap.size + 1 + 1 < w4.heap.size := by omega)); (try (have : w.heap.size + 1 + 1 + 1 < w4.heap.size := by omega))
        have hO4 := Lib.hid (ownsRow_below HO.out (by repeat' (first | (with_reducible exact Below.refl _ _) | (with_reducible assumption) | (with_reducible refine Below.alloc ?_ ?_ _) | (with_reducible refine Below.drew ?_) | (with_reducible refine Below.setCell ?_ ?_ _) | (with_reducible refine Below.stepB (by assumption) ?_ ?_) | go_size)) : w4.ownsRow (w.heap.size + 2) 57 5 _ _ _)
        have hB5 : Below (w.heap.size + 2) wr w4 := by repeat' (first | (with_reducible exact Below.refl _ _) | (with_reducible assumption) | (with_reducible refine Below.alloc ?_ ?_ _) | (with_reducible refine Below.drew ?_) | (with_reducible refine Below.setCell ?_ ?_ _) | (with_reducible refine Below.stepB (by assumption) ?_ ?_) | go_size)
        go_wp2
        go_roundw
        case rel => exact ⟨k + 1, by omega, by go_num, by rw [pick_miss HP.out]; exact hO4.out, (hB5.cell (p := ⟨w.heap.size, 0, none⟩) (by show w.heap.size < _; omega)).trans hl0, (hB5.cell (p := ⟨w.heap.size + 1, 0, none⟩) (by show w.heap.size + 1 < _; omega)).trans hr0, by omega, by repeat' (first | (with_reducible exact Below.refl _ _) | (with_reducible assumption) | (with_reducible refine Below.alloc ?_ ?_ _) | (with_reducible refine Below.drew ?_) | (with_reducible refine Below.setCell ?_ ?_ _) | (with_reducible refine Below.stepB (by assumption) ?_ ?_) | go_size)⟩
        case measure => simp [intOf]; omega
    · obtain rfl : k = n := by omega
      go_wp2
      go_ret
      exact SDsOut.row HO.out rfl (by omega) (by repeat' (first | (with_reducible exact Below.refl _ _) | (with_reducible assumption) | (with_reducible refine Below.alloc ?_ ?_ _) | (with_reducible refine Below.drew ?_) | (with_reducible refine Below.setCell ?_ ?_ _) | (with_reducible refine Below.stepB (by assumption) ?_ ?_) | go_size))
end Go.Proofs.Ytakkgagdbmlafaa
