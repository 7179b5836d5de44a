/- Contracts: one number taken out of a list of one's own by the library; a copy of a list of numbers. -/
import Derived.Test.YtakkgagdbmlafaaApp
import Derived.Test.YtakkgagdbmlafaaStill
import Derived.Test.YtakkgagdbmlafaaIntsC
import Derived.Deep.RegionLaw
import Derived.Lib.SliceRun
import Derived.Deep.Upon
namespace Go.Proofs.Ytakkgagdbmlafaa
open Go.RowKit
theorem Blk.setCells {g : Nat} {t : TypeId} : ∀ (vs : List Value) (o : Nat) (w : World) (cs : Array Value), Blk w g t cs → o + vs.length ≤ cs.size →
    ∃ cs', Blk (w.setCells g o vs) g t cs' ∧ cs'.size = cs.size ∧ (∀ q, (q < o ∨ o + vs.length ≤ q) → cs'[q]? = cs[q]?) ∧ ∀ q, q < vs.length → cs'[o + q]? = vs[q]?
  | [], o, w, cs, h, _ => ⟨cs, h, rfl, fun _ _ => rfl, fun q hq => absurd hq (by simp)⟩
  | v :: r, o, w, cs, h, hs => by
    simp only [List.length_cons] at hs
    obtain ⟨cs', h1, h2, h3, h4⟩ := Blk.setCells r (o + 1) _ _ (h.set_ o v) (by simp; omega)
    refine ⟨cs', h1, by simpa using h2, fun q hq => ?_, fun q hq => ?_⟩
    · simp only [List.length_cons] at hq
      rw [h3 q (by omega), Array.getElem?_setIfInBounds_ne (by omega)]
    · rcases Nat.eq_zero_or_pos q with rfl | hq0
      · have ho : o < cs.size := by omega
        rw [h3 _ (.inl (by omega))]
        simp [ho]
      · obtain ⟨p, rfl⟩ : ∃ p, q = p + 1 := ⟨q - 1, by omega⟩
        simp only [List.length_cons] at hq
        have := h4 p (by omega)
        rw [show o + (p + 1) = o + 1 + p by omega, this]
        simp
theorem Kept.setCells {w w' : World} {g n o : Nat} (vs : List Value) (h : Kept w w' (some ⟨g, 0, none⟩) n) (hn : 0 < n) : Kept w (w'.setCells g o vs) (some ⟨g, 0, none⟩) n := by
  induction vs generalizing o w' with
  | nil => exact h
  | cons v r ih => exact ih (h.setCell hn v)
theorem intZ (w : World) : (zeroValue 3).run Try.prog w = .ok (.int .i64 0) w := by kernel_rfl
theorem int1_info : (Try.prog.info? 3).map (fun i => (i.zero, i.size, i.bytes)) = some (some (.int .i64 0), 1, 8) := by kernel_rfl
/-- the numbers that come behind number i -/
def tailV (L : Nat → Int) (j n : Nat) : List Value := (List.range (n - j)).map (fun q => .int .i64 (L (j + q)))
set_option maxHeartbeats 4000000 in
set_option maxRecDepth 1000000 in
theorem delete_raw (blk off cap i j n : Nat) (L : Nat → Int) (w : World) (hH : ∀ q, q < n → w.cell? ⟨blk, off + q, none⟩ = some (.int .i64 (L q)) ∧ w.frozen? ⟨blk, off + q, none⟩ = false) (hcap : n ≤ cap) (_hm : cap ≤ 9223372036854775807) (hlt : i < j) (hj : j ≤ n) :
    Calls Try.prog 76 #[.slice (some ⟨blk, off, none⟩) n cap, .int .i64 i, .int .i64 j] w fun e w' => e = .returned (.slice (some ⟨blk, off, none⟩) (i + (n - j)) cap) ∧
      w' = ((w.drew.setCells blk (off + i * 1) (tailV L j n)).setCells blk (off + (i + (n - j))) (List.replicate (n - (i + (n - j))) (.int .i64 0))) := by
  obtain ⟨i0, hi0, hz0, hz1, hz2⟩ := info_parts int1_info
  obtain ⟨news, hnews⟩ : ∃ news, news = tailV L j n := ⟨_, rfl⟩
  have hlen : news.length = n - j := by rw [hnews]; simp [tailV]
  have hget : ∀ t, t < n - j → news[t]? = some (.int .i64 (L (j + t))) := by
    intro t ht
    rw [hnews]
    simp [tailV, ht]
  obtain ⟨A, hA, hsrc⟩ : ∃ A : Addr, (if cap = j then some (⟨blk, off, none⟩ : Addr) else some ⟨blk, off + j, none⟩) = some A ∧ Hid (∀ t u, news[t]? = some u → w.drew.cell? (A.add t) = some u) := by
    by_cases h : cap = j
    · refine ⟨⟨blk, off, none⟩, by simp [h], fun t u hu => ?_⟩
      have h0 : news.length = 0 := by rw [hlen]; omega
      rw [List.length_eq_zero_iff.1 h0] at hu
      simp at hu
    · refine ⟨⟨blk, off + j, none⟩, by simp [h], fun t u hu => ?_⟩
      have ht : t < n - j := by
        have := (List.getElem?_eq_some_iff.1 hu).1
        rwa [hlen] at this
      rw [hget t ht] at hu
      rw [Addr.add_lit, show off + j + t = off + (j + t) by omega]
      exact (hH (j + t) (by omega)).1.trans hu
  have s1 : Hid (news.length = (n - j) * 1) := by rw [Nat.mul_one]; exact hlen
  have s2 : Hid (∀ u ∈ news, u.oneCell' = true) := by
    intro u hu
    rw [hnews] at hu
    obtain ⟨x, _, rfl⟩ := List.mem_map.1 hu
    rfl
  have s3 : Hid (∀ t, t < news.length → (w.drew.cell? ⟨blk, off + i * 1 + t, none⟩).isSome = true ∧ w.drew.frozen? ⟨blk, off + i * 1 + t, none⟩ = false) := by
    intro t ht
    rw [hlen] at ht
    rw [Nat.mul_one, Nat.add_assoc]
    exact ⟨by show (w.cell? _).isSome = true; rw [(hH (i + t) (by omega)).1]; rfl, (hH (i + t) (by omega)).2⟩
  obtain ⟨W1, hW1⟩ : ∃ W1, W1 = w.drew.setCells blk (off + i * 1) news := ⟨_, rfl⟩
  have hall : ∀ q, q < n → (W1.cell? ⟨blk, off + q, none⟩).isSome = true ∧ W1.frozen? ⟨blk, off + q, none⟩ = false := by
    intro q hq
    rw [hW1]
    refine ⟨?_, (World.frozen?_setCells blk _ _ _ _).trans (hH q hq).2⟩
    by_cases h : q < i ∨ i + news.length ≤ q
    · rw [World.cell?_setCells_out blk _ _ _ _ (fun _ _ => by rcases h with h | h; exact .inl (by show off + q < off + i * 1; omega); exact .inr (by show off + i * 1 + news.length ≤ off + q; omega))]
      show (w.cell? _).isSome = true
      rw [(hH q hq).1]
      rfl
    · have h2 := World.cell?_setCells_in blk news (off + i * 1) w.drew (fun t ht => by have := (s3.out t ht).1; exact this) (q - i) (by omega)
      rw [show off + i * 1 + (q - i) = off + q by omega] at h2
      rw [h2]
      rfl
  have hcl : ∀ ty, (Builtin.clear_ #[23] ty #[.slice (some ⟨blk, off + (i + (n - j)), none⟩) (n - (i + (n - j))) (cap - (i + (n - j)))]).run Try.prog W1 = .ok (.tuple #[]) (W1.setCells blk (off + (i + (n - j))) (List.replicate (n - (i + (n - j))) (.int .i64 0))) :=
    fun ty => Lib.run_clear_slice W1 _ _ ty _ Try.underlying23 intZ rfl rfl blk (off + (i + (n - j))) _ _ (by omega) (fun t ht => by rw [show off + (i + (n - j)) + t = off + (i + (n - j) + t) by omega]; exact (hall _ (by omega)).1) (fun t ht => by rw [show off + (i + (n - j)) + t = off + (i + (n - j) + t) by omega]; exact (hall _ (by omega)).2)
  have hW : Hid (W1 = w.drew.setCells blk (off + i * 1) news) := hW1
  have HNW : Hid (news = tailV L j n) := hnews
  have hic : i ≤ cap := by omega
  have hjc : j ≤ cap := by omega
  clear hW1 hH hget hnews hlen hall
  go_enter Try.func76, Try.ntmps76
  go_wp2_with fail
  go_region_law (refine step_append_room rfl (.tmp 22) (.tmp 25) 23 rfl 3 i0 1 Try.underlying23 hi0 hz1 blk off i cap (by simp [Act.eval, Act.put]) A (n - j) (cap - j) news (by simp [Act.eval, Act.put]) s1.out hsrc.out s2.out (by omega) s3.out ?_; rw [← hW.out])
  go_wp2
  go_ret
  exact ⟨rfl, by rw [← HNW.out, ← hW.out]⟩
/-- the numbers without number i -/
def woL (L : Nat → Int) (i : Nat) (q : Nat) : Int := if q < i then L q else L (q + 1)
theorem delete_any (g c i n lo : Nat) (L : Nat → Int) (w : World) (hO : OwnI w lo (some ⟨g, 0, none⟩) n L) (hnc : n ≤ c) (hc : c ≤ 9223372036854775807) (hi : i < n) :
    Calls Try.prog 76 #[.slice (some ⟨g, 0, none⟩) n c, .int .i64 i, .int .i64 (i + 1)] w fun e w' => e = .returned (.slice (some ⟨g, 0, none⟩) (n - 1) c) ∧
      OwnI w' lo (some ⟨g, 0, none⟩) (n - 1) (woL L i) ∧ Kept w w' (some ⟨g, 0, none⟩) n := by
  obtain ⟨b, t, cs, hb, hlo, hB, hsz, hcs⟩ := hO (by omega)
  obtain rfl : g = b := by simpa using hb
  have h := delete_raw g 0 c i (i + 1) n L w (fun q hq => ⟨by rw [hB.cell, Nat.zero_add]; simpa using hcs q 0 hq (by decide), hB.frozen _⟩) hnc hc (by omega) (by omega)
  have e0 : ((i + 1 : Nat) : Int) = (i : Int) + 1 := by omega
  rw [e0] at h
  refine h.mono ?_
  rintro e w' ⟨rfl, rfl⟩
  have e1 : i + (n - (i + 1)) = n - 1 := by omega
  rw [e1]
  have hlt : (tailV L (i + 1) n).length = n - (i + 1) := by simp [tailV]
  obtain ⟨c1, hB1, hs1, ho1, hi1⟩ := Blk.setCells (tailV L (i + 1) n) (0 + i * 1) w.drew cs hB.drew (by rw [hlt]; omega)
  obtain ⟨c2, hB2, hs2, ho2, hi2⟩ := Blk.setCells (List.replicate (n - (n - 1)) (.int .i64 0)) (0 + (n - 1)) _ c1 hB1 (by rw [List.length_replicate]; omega)
  refine ⟨rfl, fun _ => ⟨g, t, c2, rfl, hlo, hB2, by omega, fun q j hq hj => ?_⟩, Kept.setCells _ (Kept.setCells _ (Kept.refl w _ n).drew (by omega)) (by omega)⟩
  obtain rfl : j = 0 := by omega
  simp only [Nat.mul_one, Nat.add_zero]
  rw [ho2 q (.inl (by omega))]
  unfold woL
  by_cases hq2 : q < i
  · rw [ho1 q (.inl (by omega)), if_pos hq2]
    simpa using hcs q 0 (by omega) (by decide)
  · rw [if_neg hq2]
    have h3 := hi1 (q - i) (by rw [hlt]; omega)
    rw [show 0 + i * 1 + (q - i) = q by omega] at h3
    rw [h3]
    simp only [tailV, List.getElem?_map]
    rw [List.getElem?_range (by omega)]
    simp
    congr 1
    omega
def cellI (L : Nat → Int) (i _j : Nat) : Value := .int .i64 (L i)
theorem copyInts_any (b off n c : Nat) (L : Nat → Int) (w : World) (hS : SlI w (some ⟨b, off, none⟩) n L) (hn : n ≤ 1048576) : Calls Try.prog 77 #[.slice (some ⟨b, off, none⟩) n c] w
    fun e w' => ∃ v, e = .returned v ∧ w'.ownsRow w.heap.size 3 1 v n (flatG 1 (cellI L) n) ∧ Below w.heap.size w w' := by
  obtain ⟨i0, hi0, hz0, hz1, hz2⟩ := info_parts int1_info
  have hO0 := Lib.hid (ownsRow_empty w 3 1)
  have HC := Lib.hid (fun (W : World) (hb : Below w.heap.size w W) (q j : Nat) (hq : q < n) (hj : j < 1) => show W.cell? ⟨b, off + q * 1 + j, none⟩ = some (cellI L q j) from by
    obtain ⟨b1, o1, e1, _, hc⟩ := (Sl.below hS hb) (by omega)
    obtain ⟨rfl, rfl⟩ : b = b1 ∧ off = o1 := by simpa using e1
    exact hc q j hq hj)
  clear hS
  go_enter Try.func77, Try.ntmps77
  go_wp2_with (at_builtin; refine wpList_append_rowG _ rfl _ _ 23 rfl w.heap.size 3 i0 _ 1 8 Try.underlying23 hi0 hz0 hz1 hz2 rfl (by decide) _ 0 [] rfl hO0.out b off n c (cellI L) rfl ?_ (fun _ _ => rfl) (by omega) (by decide) ?_ ?_; go_must (focus exact HC.out _ (by repeat' (first | (with_reducible exact Below.refl _ _) | (with_reducible assumption) | (with_reducible refine Below.alloc ?_ ?_ _) | (with_reducible refine Below.drew ?_) | (with_reducible refine Below.setCell ?_ ?_ _) | (with_reducible refine Below.stepB (by assumption) ?_ ?_) | go_size))); go_must (focus (simp; done)); intro v9 w4 hO4 hb4; rw [Nat.zero_add, List.nil_append] at hO4; have HO4 := Lib.hid hO4; have HB4 := Lib.hid (show Below w.heap.size w w4 from by repeat' (first | (with_reducible exact Below.refl _ _) | (with_reducible assumption) | (with_reducible refine Below.alloc ?_ ?_ _) | (with_reducible refine Below.drew ?_) | (with_reducible refine Below.setCell ?_ ?_ _) | (with_reducible refine Below.stepB (by assumption) ?_ ?_) | go_size)); clear hO4 hb4)
  go_ret
  exact ⟨_, rfl, HO4.out, HB4.out⟩
theorem l1Own_any (b off n c : Nat) (L : Nat → Int) (w : World) (hS : SlI w (some ⟨b, off, none⟩) n L) (hn : n ≤ 1048576) : Calls Try.prog 99 #[.slice (some ⟨b, off, none⟩) n c] w
    fun e w' => ∃ v, e = .returned v ∧ w'.ownsRow w.heap.size 3 1 v n (flatG 1 (cellI L) n) ∧ Below w.heap.size w w' := by
  obtain ⟨i0, hi0, hz0, hz1, hz2⟩ := info_parts int1_info
  have hO0 := Lib.hid (ownsRow_empty w 3 1)
  have HC := Lib.hid (fun (W : World) (hb : Below w.heap.size w W) (q j : Nat) (hq : q < n) (hj : j < 1) => show W.cell? ⟨b, off + q * 1 + j, none⟩ = some (cellI L q j) from by
    obtain ⟨b1, o1, e1, _, hc⟩ := (Sl.below hS hb) (by omega)
    obtain ⟨rfl, rfl⟩ : b = b1 ∧ off = o1 := by simpa using e1
    exact hc q j hq hj)
  clear hS
  go_enter Try.func99, Try.ntmps99
  go_wp2_with (at_builtin; refine wpList_append_rowG _ rfl _ _ 23 rfl w.heap.size 3 i0 _ 1 8 Try.underlying23 hi0 hz0 hz1 hz2 rfl (by decide) _ 0 [] rfl hO0.out b off n c (cellI L) rfl ?_ (fun _ _ => rfl) (by omega) (by decide) ?_ ?_; go_must (focus exact HC.out _ (by repeat' (first | (with_reducible exact Below.refl _ _) | (with_reducible assumption) | (with_reducible refine Below.alloc ?_ ?_ _) | (with_reducible refine Below.drew ?_) | (with_reducible refine Below.setCell ?_ ?_ _) | (with_reducible refine Below.stepB (by assumption) ?_ ?_) | go_size))); go_must (focus (simp; done)); intro v9 w4 hO4 hb4; rw [Nat.zero_add, List.nil_append] at hO4; have HO4 := Lib.hid hO4; have HB4 := Lib.hid (show Below w.heap.size w w4 from by repeat' (first | (with_reducible exact Below.refl _ _) | (with_reducible assumption) | (with_reducible refine Below.alloc ?_ ?_ _) | (with_reducible refine Below.drew ?_) | (with_reducible refine Below.setCell ?_ ?_ _) | (with_reducible refine Below.stepB (by assumption) ?_ ?_) | go_size)); clear hO4 hb4)
  go_ret
  exact ⟨_, rfl, HO4.out, HB4.out⟩
theorem flat1_own {w : World} {base : Nat} {e : TypeId} {A : Option Addr} {n c : Nat} {L : Nat → Int} (h : w.ownsRow base e 1 (.slice A n c) n (flatG 1 (cellI L) n)) : OwnI w base A n L := own_flat h
end Go.Proofs.Ytakkgagdbmlafaa
