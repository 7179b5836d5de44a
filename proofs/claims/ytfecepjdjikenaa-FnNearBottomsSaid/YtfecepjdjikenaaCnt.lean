/- Contract: the program's counts of letters. -/
import Derived.Test.YtfecepjdjikenaaTwo
import Derived.Test.YtfecepjdjikenaaCntP
import Derived.Test.YtfecepjdjikenaaOdd
namespace Go.Proofs.Ytfecepjdjikenaa
open Go.RowKit
/-- the letters of the first k -/
def lettN (f : Nat → BS) (k : Nat) : List (List UInt8) := pick (fun _ => true) (fun i => lettV (f i)) k
theorem lettN_snoc (f : Nat → BS) (k : Nat) : lettN f (k + 1) = lettN f k ++ [lettV (f k)] := pick_hit rfl
theorem lettN_len (f : Nat → BS) : ∀ k, (lettN f k).length = k
  | 0 => rfl
  | k + 1 => by rw [lettN_snoc, List.length_append, lettN_len f k]; rfl
/-- two rows of one's own: names and numbers, and a yes or no -/
def CntOut (w : World) (D : List (List UInt8)) (C : List Int) (ok : Bool) (e : Ending) (w' : World) : Prop :=
  ∃ A c A' c', e = .returned (.tuple #[.slice A D.length c, .slice A' C.length c', .bool ok]) ∧ OwnT w' w.heap.size A D.length (fun i => D.getD i []) ∧ OwnI w' w.heap.size A' C.length (fun i => C.getD i 0)
    ∧ (∀ a a', 0 < D.length → 0 < C.length → A = some a → A' = some a' → a.block ≠ a'.block) ∧ Below w.heap.size w w'
theorem CntOut.none {w w' : World} {A A' : Option Addr} {c c' : Nat} {D : List (List UInt8)} {C : List Int} {ok ok' : Bool} (hD : D = []) (hC : C = []) (hok : ok = ok') (hb : Below w.heap.size w w') : CntOut w D C ok (.returned (.tuple #[.slice A 0 c, .slice A' 0 c', .bool ok'])) w' := by
  subst hD hC hok
  exact ⟨_, _, _, _, rfl, fun h => absurd h (by simp), fun h => absurd h (by simp), fun _ _ h => absurd h (by simp), hb⟩
theorem CntOut.rows {w w' : World} {base base' : Nat} {A A' : Option Addr} {c c' : Nat} {D : List (List UInt8)} {C : List Int} {ok : Bool} (hO : w'.ownsRow base 9 1 (.slice A D.length c) D.length (D.map strV)) (hO' : w'.ownsRow base' 3 1 (.slice A' C.length c') C.length (C.map (Value.int .i64)))
    (hok : ok = true) (h1 : w.heap.size ≤ base) (h2 : w.heap.size ≤ base') (hb : Below w.heap.size w w') : CntOut w D C ok (.returned (.tuple #[.slice A D.length c, .slice A' C.length c', .bool true])) w' := by
  subst hok
  refine ⟨_, _, _, _, rfl, (ownT_of rfl hO).more h1, (ownI_of rfl hO').more h2, fun a a' hd hc ha ha' => ?_, hb⟩
  obtain ⟨b, e1⟩ := (ownT_of rfl hO).form hd
  obtain ⟨b', e2⟩ := (ownI_of rfl hO').form hc
  subst ha ha'
  obtain rfl := Option.some.inj e1
  obtain rfl := Option.some.inj e2
  have := rows_ne hO hO' (by decide) (g := b) rfl
  intro h
  exact this (by simpa [Value.ownBlock] using h)
def cntsOk (f : Nat → BS) (n : Nat) : Bool := goodUpto f n && decide (n ≤ 12)
theorem LetterCounts_no (A : Option Addr) (n c : Nat) (f : Nat → BS) (w : World) (hS : SlS w A n f) (hn : n ≤ 1048576) (h : cntsOk f n = false) :
    Calls Try.prog 43 #[.slice A n c] w fun e w' => CntOut w [] [] false e w' := by
  have hA := fun W (hb : Below w.heap.size w W) => AreSamples_any A n c f W (hS.below hb) hn
  unfold cntsOk at h
  rw [h] at hA
  have HA := Lib.hid hA
  clear hA hS h
  go_enter Try.func43, Try.ntmps43
  go_wp2_with fail
  refine (HA.out _ (by repeat' (first | (with_reducible exact Below.refl _ _) | (with_reducible assumption) | (with_reducible refine Below.alloc ?_ ?_ _) | (with_reducible refine Below.drew ?_) | (with_reducible refine Below.setCell ?_ ?_ _) | (with_reducible refine Below.stepB (by assumption) ?_ ?_) | go_size))).mono ?_
  rintro e w1 ⟨rfl, hbw1⟩
  obtain ⟨hzw1, hcw1, hfw1⟩ := bfacts hbw1; (try simp at hzw1 hcw1 hfw1); (try (have : w.heap.size < w1.heap.size := by omega)); (try (have : w.heap.size + 1 < w1.heap.size := by omega)); (try (have : w.heap.size + 1 + 1 < w1.heap.size := by omega)); (try (have : w.heap.size + 1 + 1 + 1 < w1.heap.size := by omega))
  go_wp2
  go_ret3
  exact CntOut.none rfl rfl rfl (by repeat' (first | (with_reducible exact Below.refl _ _) | (with_reducible assumption) | (with_reducible refine Below.alloc ?_ ?_ _) | (with_reducible refine Below.drew ?_) | (with_reducible refine Below.setCell ?_ ?_ _) | (with_reducible refine Below.stepB (by assumption) ?_ ?_) | go_size))
theorem specCounts_no (A : Option Addr) (n c : Nat) (f : Nat → BS) (w : World) (hS : SlS w A n f) (hn : n ≤ 1048576) (h : cntsOk f n = false) :
    Calls Try.prog 42 #[.slice A n c] w fun e w' => CntOut w [] [] false e w' := by
  have hA := fun W (hb : Below w.heap.size w W) => l18Good_any A n c f W (hS.below hb) hn
  unfold cntsOk at h
  rw [h] at hA
  have HA := Lib.hid hA
  clear hA hS h
  go_enter Try.func42, Try.ntmps42
  go_wp2_with fail
  refine (HA.out _ (by repeat' (first | (with_reducible exact Below.refl _ _) | (with_reducible assumption) | (with_reducible refine Below.alloc ?_ ?_ _) | (with_reducible refine Below.drew ?_) | (with_reducible refine Below.setCell ?_ ?_ _) | (with_reducible refine Below.stepB (by assumption) ?_ ?_) | go_size))).mono ?_
  rintro e w1 ⟨rfl, hbw1⟩
  obtain ⟨hzw1, hcw1, hfw1⟩ := bfacts hbw1; (try simp at hzw1 hcw1 hfw1); (try (have : w.heap.size < w1.heap.size := by omega)); (try (have : w.heap.size + 1 < w1.heap.size := by omega)); (try (have : w.heap.size + 1 + 1 < w1.heap.size := by omega)); (try (have : w.heap.size + 1 + 1 + 1 < w1.heap.size := by omega))
  go_wp2
  go_ret3
  exact CntOut.none rfl rfl rfl (by repeat' (first | (with_reducible exact Below.refl _ _) | (with_reducible assumption) | (with_reducible refine Below.alloc ?_ ?_ _) | (with_reducible refine Below.drew ?_) | (with_reducible refine Below.setCell ?_ ?_ _) | (with_reducible refine Below.stepB (by assumption) ?_ ?_) | go_size))
set_option maxRecDepth 100000 in
set_option maxHeartbeats 2000000 in
theorem LetterCounts_yes (A : Option Addr) (n c : Nat) (f : Nat → BS) (w : World) (hS : SlS w A n f) (hn : n ≤ 1048576) (h : cntsOk f n = true) :
    Calls Try.prog 43 #[.slice A n c] w fun e w' => ∃ D C, CntOk (· < ·) (lettN f n) D C ∧ D.length ≤ n ∧ CntOut w D C true e w' := by
  obtain ⟨hg, h12⟩ : goodUpto f n = true ∧ n ≤ 12 := by simpa [cntsOk] using h
  have hok := Lib.hid (good_lt hg)
  have hA := fun W (hb : Below w.heap.size w W) => AreSamples_any A n c f W (hS.below hb) hn
  unfold cntsOk at h
  rw [h] at hA
  have HA := Lib.hid hA
  have HLT := Lib.hid (fun i (hi : i < n) W => lettersOf_any (f i) W (hok.out i hi))
  obtain ⟨s0, hs0, hy0, hy1, hy2⟩ := info_parts str_info
  obtain ⟨i0, hi0, hz0, hz1, hz2⟩ := info_parts intS_info
  have HS := Lib.hid hS
  clear hA hS hg h
  go_enter Try.func43, Try.ntmps43
  go_wp2_with fail
  refine (HA.out _ (by repeat' (first | (with_reducible exact Below.refl _ _) | (with_reducible assumption) | (with_reducible refine Below.alloc ?_ ?_ _) | (with_reducible refine Below.drew ?_) | (with_reducible refine Below.setCell ?_ ?_ _) | (with_reducible refine Below.stepB (by assumption) ?_ ?_) | go_size))).mono ?_
  rintro e w1 ⟨rfl, hbw1⟩
  obtain ⟨hzw1, hcw1, hfw1⟩ := bfacts hbw1; (try simp at hzw1 hcw1 hfw1); (try (have : w.heap.size < w1.heap.size := by omega)); (try (have : w.heap.size + 1 < w1.heap.size := by omega)); (try (have : w.heap.size + 1 + 1 < w1.heap.size := by omega)); (try (have : w.heap.size + 1 + 1 + 1 < w1.heap.size := by omega))
  go_wp2
  have hO0 := Lib.hid (ownsRow_empty w1 9 1)
  go_loopw [5, 18] (fun v5 v18 wr => ∃ i : Nat, ∃ b5 c5, i ≤ n ∧ v18 = .int .i64 i ∧ v5 = .slice (some ⟨b5, 0, none⟩) (lettN f i).length c5 ∧ Hid (wr.ownsRow w1.heap.size 9 1 (.slice (some ⟨b5, 0, none⟩) (lettN f i).length c5) (lettN f i).length ((lettN f i).map strV)) ∧ Below w.heap.size w wr ∧ w1.heap.size ≤ wr.heap.size) (fun _ v18 _ => n - (intOf v18).toNat)
  case atStart => exact ⟨0, _, _, Nat.zero_le _, rfl, rfl, hO0.out, by repeat' (first | (with_reducible exact Below.refl _ _) | (with_reducible assumption) | (with_reducible refine Below.alloc ?_ ?_ _) | (with_reducible refine Below.drew ?_) | (with_reducible refine Below.setCell ?_ ?_ _) | (with_reducible refine Below.stepB (by assumption) ?_ ?_) | go_size), by go_size⟩
  case round =>
    clear hO0
    obtain ⟨i, b5, c5, hi, rfl, rfl, hO, hbr, hzr1⟩ := hrel
    have hzr := hbr.size
    have hX := lettN_len f i
    by_cases hlt : i < n
    · obtain ⟨b, off, rfl, hbl, hbl2, d0, d1, d2, d3, d4, d5, -⟩ := HS.out.at hbr hlt
      have HE := Lib.hid (lettN_snoc f i)
      have HX := Lib.hid hX
      clear hX
      have HL := Lib.hid (fun W => HLT.out i hlt W)
      obtain ⟨s, hs⟩ : ∃ s, lettV (f i) = s := ⟨_, rfl⟩
      rw [hs] at HL HE
      clear hs
      generalize lettN f i = X at hO HE HX ⊢
      go_wp2_with fail
      refine (HL.out _).mono ?_
      rintro e w3 ⟨rfl, hbw3⟩
      obtain ⟨hzw3, hcw3, hfw3⟩ := bfacts hbw3; (try simp at hzw3 hcw3 hfw3); (try (have : w.heap.size < w3.heap.size := by omega)); (try (have : w.heap.size + 1 < w3.heap.size := by omega)); (try (have : w.heap.size + 1 + 1 < w3.heap.size := by omega)); (try (have : w.heap.size + 1 + 1 + 1 < w3.heap.size := by omega))
      have HO3 := Lib.hid (ownsRow_below (hO.out.alloc _) hbw3)
      have HXl : X.length ≤ 12 := by have := HX.out; omega
      clear hO
      go_wp2_with (at_builtin; refine wpList_append_one _ rfl _ _ 58 rfl w1.heap.size 9 s0 _ 16 Try.underlying58 hs0 hy0 hy1 hy2 rfl (by decide) _ _ _ rfl ((HO3.out.alloc _)) _ _ (.string ⟨s.toArray⟩) rfl ?_ rfl ?_ ?_ ?_; go_must (focus (simp; done)); go_must (focus omega); go_must (focus (first | omega | (simp; omega) | (simp; done))); intro v9 w4 hOw4 hbw4 hkw4; have hzw4 := hbw4.size; (try simp at hzw4))
      obtain ⟨b4, c4, rfl⟩ := ownsRow_pos hOw4 (Nat.succ_pos _)
      have HO4 := Lib.hid (snocT hOw4)
      have el : X.length + 1 = (X ++ [s]).length := by simp
      rw [el] at HO4 ⊢
      go_roundw
      case rel => exact ⟨i + 1, b4, c4, by omega, by go_num, by rw [HE.out], by rw [HE.out]; exact HO4.out, by repeat' (first | (with_reducible exact Below.refl _ _) | (with_reducible assumption) | (with_reducible refine Below.alloc ?_ ?_ _) | (with_reducible refine Below.drew ?_) | (with_reducible refine Below.setCell ?_ ?_ _) | (with_reducible refine Below.stepB (by assumption) ?_ ?_) | go_size), by omega⟩
      case measure => simp [intOf]; omega
    · obtain rfl : i = n := by omega
      have HP := Lib.hid (srtT_perm (lettN f i))
      have HM := Lib.hid (srtT_len (lettN f i))
      have HW := Lib.hid (srtT_asc (lettN f i))
      rw [hX] at HM
      have hO := hO.out
      have HB := Lib.hid hbr
      have HX := Lib.hid hX
      have hSO := Lib.hid (sort_ownT b5 c5 (lettN f i) _ _ hO (by omega))
      clear hO hbr hX
      generalize srtT (lettN f i) = M at hSO HP HM HW
      go_wp2_with fail
      refine hSO.out.mono ?_
      rintro e w3 ⟨rfl, hO3, hb3⟩
      rw [HM.out] at hO3
      rw [HX.out]
      have hz3 := hb3.size
      have HT3 := Lib.hid (ownT_of HM.out.symm hO3).sl
      have HBR := Lib.hid (HB.out.trans (hb3.mono (by omega)))
      have hb5 := (ownsRow_lt hO3).2.1
      clear hO3 hb3 hSO
      go_wp2
      have hO8 := Lib.hid ((ownsRow_empty w3 9 1).alloc (.cells #[] 3))
      have hO9 := own_base (base' := w3.heap.size) (ownsRow_empty (w3.alloc (.cells #[] 9)) 3 1) (by simp)
      simp at hO9
      have hO9 := Lib.hid hO9
      go_loopw [8, 9, 34] (fun v8 v9 v34 wr => ∃ k : Nat, ∃ D C b8 c8 b9 c9, k ≤ i ∧ v34 = .int .i64 k ∧ v8 = .slice (some ⟨b8, 0, none⟩) D.length c8 ∧ v9 = .slice (some ⟨b9, 0, none⟩) C.length c9 ∧ D.length ≤ k ∧ Hid (CntOk (· < ·) (M.take k) D C) ∧
        Hid (wr.ownsRow w3.heap.size 9 1 (.slice (some ⟨b8, 0, none⟩) D.length c8) D.length (D.map strV)) ∧ Hid (wr.ownsRow w3.heap.size 3 1 (.slice (some ⟨b9, 0, none⟩) C.length c9) C.length (C.map (Value.int .i64))) ∧ Below w3.heap.size w3 wr) (fun _ _ v34 _ => i - (intOf v34).toNat)
      case atStart => exact ⟨0, [], [], _, _, _, _, Nat.zero_le _, rfl, rfl, rfl, Nat.zero_le _, cnt_nil _, hO8.out, hO9.out, by repeat' (first | (with_reducible exact Below.refl _ _) | (with_reducible assumption) | (with_reducible refine Below.alloc ?_ ?_ _) | (with_reducible refine Below.drew ?_) | (with_reducible refine Below.setCell ?_ ?_ _) | (with_reducible refine Below.stepB (by assumption) ?_ ?_) | go_size)⟩
      case round =>
        rename World => wq
        clear hO8 hO9
        obtain ⟨k, D, C, b8, c8, b9, c9, hk, rfl, rfl, rfl, hDk, hC, hP8, hP9, hbq⟩ := hrel
        have hzq := hbq.size
        have hCD := cnt_len hC.out
        by_cases hlt2 : k < i
        · obtain ⟨b', off', e5, hbl, hbl2, y0⟩ := HT3.out.at hbq hlt2
          obtain ⟨rfl, rfl⟩ : b5 = b' ∧ off' = 0 := by simpa [eq_comm] using e5
          have hkM : k < M.length := by rw [HM.out]; exact hlt2
          replace y0 : wq.cell? ⟨b5, k, none⟩ = some (.string ⟨(M.getD k []).toArray⟩) := by rw [Nat.zero_add] at y0; exact y0
          have hMk : M.getD k [] = M[k] := by simp [List.getD, hkM]
          have HN := Lib.hid (fun h => cnt_run_new ltS_irr ltS_tr ltS_tri hkM HW.out hC.out h)
          have HQ := Lib.hid (fun h0 h => cnt_run_old ltS_irr hkM h0 HW.out hC.out h)
          have hk12 : D.length ≤ 12 := by omega
          have hc12 : C.length ≤ 12 := by omega
          have HCD := Lib.hid hCD
          have HDK := Lib.hid hDk
          clear hCD hDk e5
          rw [← hMk] at HN HQ
          have HBD := Lib.hid (fun j => cnt_bd hC.out j)
          have hMl : (M.take k).length ≤ 12 := by rw [List.length_take]; omega
          by_cases h0 : k = 0 ∨ M.getD (k - 1) [] ≠ M.getD k []
          · have HN1 := Lib.hid (HN.out (h0.imp id (fun h => ⟨by omega, fun e => h (by rw [← e]; simp [List.getD, show k - 1 < M.length by omega])⟩)))
            clear HN HQ hMk hC
            have key : ∀ (ok : Nat × Bool → Prop), True := fun _ => trivial
            clear key
            rcases Nat.eq_zero_or_pos k with rfl | hkp
            · clear h0
              generalize M.getD 0 [] = s at y0 HN1
              go_wp2_with (first
                | ((at_builtin; refine wpList_append_one _ rfl _ _ 58 rfl w3.heap.size 9 s0 _ 16 Try.underlying58 hs0 hy0 hy1 hy2 rfl (by decide) _ _ _ rfl ((hP8.out.alloc _)) _ _ (.string ⟨s.toArray⟩) rfl ?_ rfl ?_ ?_ ?_; go_must (focus (simp; done)); go_must (focus omega); go_must (focus (first | omega | (simp; omega) | (simp; done))); intro v9 w4 hOw4 hbw4 hkw4; have hzw4 := hbw4.size; (try simp at hzw4)); go_must (obtain ⟨b4, c4, rfl⟩ := ownsRow_pos hOw4 (Nat.succ_pos _); have HO4 := Lib.hid hOw4; have HP4 := Lib.hid (ownsRow_other (hP9.out.alloc _) (hP8.out.alloc _) (by decide) hkw4); clear hkw4 hOw4))
                | ((at_builtin; refine wpList_append_one _ rfl _ _ 51 rfl w3.heap.size 3 i0 _ 8 Try.underlying51 hi0 hz0 hz1 hz2 rfl (by decide) _ _ _ rfl ((HP4.out.alloc _)) _ _ (.int .i64 0) rfl ?_ rfl ?_ ?_ ?_; go_must (focus (simp; done)); go_must (focus omega); go_must (focus (first | omega | (simp; omega) | (simp; done))); intro v9 w5 hOw5 hbw5 hkw5; have hzw5 := hbw5.size; (try simp at hzw5)); go_must (obtain ⟨b6, c6, rfl⟩ := ownsRow_pos hOw5 (Nat.succ_pos _); have HO5 := Lib.hid (ownsRow_other (HO4.out.alloc _) (HP4.out.alloc _) (by decide) hkw5); have hget := ownsRow_get (k := C.length) (u := .int .i64 0) hOw5 (by omega) (by simp); obtain ⟨g1, g2, g3⟩ := hget; have HR8 := Lib.hid (fun u => ownsRow_setOther (q := C.length) (u := u) HO5.out hOw5 (by decide)); have HR9 := Lib.hid (fun u => ownsRow_set (k := C.length) (u := u) hOw5 (by omega)); have HB9 := Lib.hid (ownsRow_lt hOw5).1; clear hkw5 hOw5)))
              go_roundw
              case rel =>
                refine ⟨0 + 1, D ++ [s], C ++ [1], b4, c4, b6, c6, ?_, by go_num, by simp, by simp, by have := HDK.out; rw [List.length_append, List.length_singleton]; omega, HN1.out, ?_, ?_, ?_⟩
                · omega
                · have h := HR8.out (.int .i64 1)
                  simp [strV] at h ⊢
                  exact h
                · have h := HR9.out (.int .i64 1)
                  simp at h ⊢
                  exact h
                · exact Below.setCell (by repeat' (first | (with_reducible exact Below.refl _ _) | (with_reducible assumption) | (with_reducible refine Below.alloc ?_ ?_ _) | (with_reducible refine Below.drew ?_) | (with_reducible refine Below.setCell ?_ ?_ _) | (with_reducible refine Below.stepB (by assumption) ?_ ?_) | go_size)) HB9.out _
              case measure => simp [intOf]; omega
            · have hk0 : ((k : Int) == 0) = false := by simp; omega
              obtain ⟨b', off', e5, _, _, y1⟩ := HT3.out.at hbq (show k - 1 < i by omega)
              obtain ⟨rfl, rfl⟩ : b5 = b' ∧ off' = 0 := by simpa [eq_comm] using e5
              obtain ⟨q, rfl⟩ : ∃ q, k = q + 1 := ⟨k - 1, by omega⟩
              replace y1 : wq.cell? ⟨b5, q, none⟩ = some (.string ⟨(M.getD (q + 1 - 1) []).toArray⟩) := by rw [Nat.zero_add] at y1; exact y1
              have hne : M.getD (q + 1 - 1) [] ≠ M.getD (q + 1) [] := by
                rcases h0 with h0 | h0
                · omega
                · exact h0
              clear e5 h0
              generalize M.getD (q + 1) [] = s at y0 HN1 hne
              generalize M.getD (q + 1 - 1) [] = p at y1 hne
              have hsb : (p == s) = false := by simpa using hne
              have hsd : (p != s) = true := by simpa using hne
              clear hne
              go_wp2_with (first
                | ((at_builtin; refine wpList_append_one _ rfl _ _ 58 rfl w3.heap.size 9 s0 _ 16 Try.underlying58 hs0 hy0 hy1 hy2 rfl (by decide) _ _ _ rfl ((hP8.out.alloc _)) _ _ (.string ⟨s.toArray⟩) rfl ?_ rfl ?_ ?_ ?_; go_must (focus (simp; done)); go_must (focus omega); go_must (focus (first | omega | (simp; omega) | (simp; done))); intro v9 w4 hOw4 hbw4 hkw4; have hzw4 := hbw4.size; (try simp at hzw4)); go_must (obtain ⟨b4, c4, rfl⟩ := ownsRow_pos hOw4 (Nat.succ_pos _); have HO4 := Lib.hid hOw4; have HP4 := Lib.hid (ownsRow_other (hP9.out.alloc _) (hP8.out.alloc _) (by decide) hkw4); clear hkw4 hOw4))
                | ((at_builtin; refine wpList_append_one _ rfl _ _ 51 rfl w3.heap.size 3 i0 _ 8 Try.underlying51 hi0 hz0 hz1 hz2 rfl (by decide) _ _ _ rfl ((HP4.out.alloc _)) _ _ (.int .i64 0) rfl ?_ rfl ?_ ?_ ?_; go_must (focus (simp; done)); go_must (focus omega); go_must (focus (first | omega | (simp; omega) | (simp; done))); intro v9 w5 hOw5 hbw5 hkw5; have hzw5 := hbw5.size; (try simp at hzw5)); go_must (obtain ⟨b6, c6, rfl⟩ := ownsRow_pos hOw5 (Nat.succ_pos _); have HO5 := Lib.hid (ownsRow_other (HO4.out.alloc _) (HP4.out.alloc _) (by decide) hkw5); have hget := ownsRow_get (k := C.length) (u := .int .i64 0) hOw5 (by omega) (by simp); obtain ⟨g1, g2, g3⟩ := hget; have HR8 := Lib.hid (fun u => ownsRow_setOther (q := C.length) (u := u) HO5.out hOw5 (by decide)); have HR9 := Lib.hid (fun u => ownsRow_set (k := C.length) (u := u) hOw5 (by omega)); have HB9 := Lib.hid (ownsRow_lt hOw5).1; clear hkw5 hOw5)))
              go_roundw
              case rel =>
                refine ⟨q + 1 + 1, D ++ [s], C ++ [1], b4, c4, b6, c6, ?_, by go_num, by simp, by simp, by have := HDK.out; rw [List.length_append, List.length_singleton]; omega, HN1.out, ?_, ?_, ?_⟩
                · omega
                · have h := HR8.out (.int .i64 1)
                  simp [strV] at h ⊢
                  exact h
                · have h := HR9.out (.int .i64 1)
                  simp at h ⊢
                  exact h
                · exact Below.setCell (by repeat' (first | (with_reducible exact Below.refl _ _) | (with_reducible assumption) | (with_reducible refine Below.alloc ?_ ?_ _) | (with_reducible refine Below.drew ?_) | (with_reducible refine Below.setCell ?_ ?_ _) | (with_reducible refine Below.stepB (by assumption) ?_ ?_) | go_size)) HB9.out _
              case measure => simp [intOf]; omega
          · have hkp : 0 < k := by omega
            have hk0 : ((k : Int) == 0) = false := by simp; omega
            have he : M.getD (k - 1) [] = M.getD k [] := Classical.byContradiction fun h => h0 (.inr h)
            obtain ⟨b', off', e5, _, _, y1⟩ := HT3.out.at hbq (show k - 1 < i by omega)
            obtain ⟨rfl, rfl⟩ : b5 = b' ∧ off' = 0 := by simpa [eq_comm] using e5
            obtain ⟨hc0, HQ1⟩ := HQ.out hkp (by rw [← he]; simp [List.getD, show k - 1 < M.length by omega])
            have HQ1 := Lib.hid HQ1
            obtain ⟨q, rfl⟩ : ∃ q, k = q + 1 := ⟨k - 1, by omega⟩
            replace y1 : wq.cell? ⟨b5, q, none⟩ = some (.string ⟨(M.getD (q + 1 - 1) []).toArray⟩) := by rw [Nat.zero_add] at y1; exact y1
            rw [he] at y1
            clear HN HQ hMk hC e5 h0 he
            generalize M.getD (q + 1) [] = s at y0 y1
            have hget := ownsRow_get (k := C.length - 1) (u := .int .i64 (C.getD (C.length - 1) 0)) hP9.out (by omega) (by simp [List.getD, show C.length - 1 < C.length by omega])
            obtain ⟨g1, g2, g3⟩ := hget
            have hz := HBD.out (C.length - 1)
            generalize C.getD (C.length - 1) 0 = z at g2 HQ1 hz
            have hjz : (0 : Int) ≤ (C.length : Int) - 1 := by omega
            have hjl : (C.length : Int) - 1 < (C.length : Int) := by omega
            have hjn : ((C.length : Int) - 1).toNat = C.length - 1 := by omega
            have HR8 := Lib.hid (fun u => ownsRow_setOther (q := C.length - 1) (u := u) hP8.out hP9.out (by decide))
            have HR9 := Lib.hid (fun u => ownsRow_set (k := C.length - 1) (u := u) hP9.out (by omega))
            have HB9 := Lib.hid (ownsRow_lt hP9.out).1
            go_wp2
            go_roundw
            case rel =>
              refine ⟨q + 1 + 1, D, C.set (C.length - 1) (z + 1), b8, c8, b9, c9, by omega, by go_num, rfl, by simp, by have := HDK.out; omega, HQ1.out, HR8.out _, ?_, Below.setCell hbq HB9.out _⟩
              have h := HR9.out (.int .i64 (z + 1))
              simp at h ⊢
              exact h
            case measure => simp [intOf]; omega
        · obtain rfl : k = i := by omega
          go_wp2
          go_ret3
          have h1 := hC.out
          rw [List.take_of_length_le (by rw [HM.out]; exact Nat.le_refl _)] at h1
          exact ⟨D, C, cnt_perm HP.out h1, hDk, CntOut.rows hP8.out hP9.out rfl (by omega) (by omega) (HBR.out.trans (hbq.mono (by omega)))⟩
end Go.Proofs.Ytfecepjdjikenaa
