/- The text of a danger by the reference: its drawn statement by RegInv's law. -/
import Derived.Test.YtclcgckledbpfaaDoorTxtB
import Derived.Test.YtclcgckledbpfaaDoorRegInv
import Derived.Deep.DeepCutAuto
namespace Go.Proofs.YtclcgckledbpfaaDoor
open Go.RowKit
/-- A slice of three strings, in the heap. -/
def tabV (a b c : List UInt8) (v : Value) (w : World) : Prop := ∃ B, v = .slice (some ⟨B, 0, none⟩) 3 3 ∧ w.cell? ⟨B, 0, none⟩ = some (.string ⟨a.toArray⟩) ∧ w.cell? ⟨B, 1, none⟩ = some (.string ⟨b.toArray⟩) ∧ w.cell? ⟨B, 2, none⟩ = some (.string ⟨c.toArray⟩)
def celV (K : List UInt8) (v : Value) (w : World) : Prop := ∃ a : Addr, v = .pointer (some a) ∧ w.cell? a = some (.string ⟨K.toArray⟩)
def strV (l : List UInt8) (v : Value) : Prop := v = .string ⟨l.toArray⟩
def txD (i : Nat) : Nat := if i = 29 then 4 else i + 8
def txV (hp : Nat) (id kind x y q : Int) (K S1 S2 S3 Qs P1 P2 P3 P4 P5 P6 P7 P8 : List UInt8) : Nat → Value → World → Prop
  | 0, v, w => tabV [119, 114, 101, 99, 107] [114, 111, 99, 107] [99, 97, 98, 108, 101] v w
  | 1, v, _ => v = .pointer (some ⟨hp, 1, none⟩)
  | 2, v, _ => v = .int .i64 kind
  | 3, v, w => celV K v w
  | 4, v, _ => strV K v
  | 5, v, _ => strV P1 v
  | 6, v, _ => v = .pointer (some ⟨hp, 0, none⟩)
  | 7, v, _ => v = .int .i64 id
  | 8, v, _ => strV S1 v
  | 9, v, _ => strV P2 v
  | 10, v, _ => strV P3 v
  | 11, v, _ => v = .pointer (some ⟨hp, 2, none⟩)
  | 12, v, _ => v = .pointer (some ⟨hp, 2, none⟩)
  | 13, v, _ => v = .int .i64 x
  | 14, v, _ => strV S2 v
  | 15, v, _ => strV P4 v
  | 16, v, _ => strV P5 v
  | 17, v, _ => v = .pointer (some ⟨hp, 2, none⟩)
  | 18, v, _ => v = .pointer (some ⟨hp, 3, none⟩)
  | 19, v, _ => v = .int .i64 y
  | 20, v, _ => strV S3 v
  | 21, v, _ => strV P6 v
  | 22, v, _ => strV P7 v
  | 23, v, w => tabV [] [97, 116, 32, 108, 101, 97, 115, 116, 32] [112, 101, 114, 104, 97, 112, 115, 32] v w
  | 24, v, _ => v = .pointer (some ⟨hp, 5, none⟩)
  | 25, v, _ => v = .int .i64 q
  | 26, v, w => celV Qs v w
  | 27, v, _ => strV Qs v
  | 28, v, _ => strV P8 v
  | 29, v, _ => strV P8 v
  | _, _, _ => True
theorem cell_on {w w' : World} (h : Below w.heap.size w w') {a : Addr} {v : Value} (hc : w.cell? a = some v) : w'.cell? a = some v := by
  rw [h.cell (p := a) (World.block_lt_of_cell? _ _ (by rw [hc])), hc]
theorem tabV_on {w w' : World} (h : Below w.heap.size w w') {a b c : List UInt8} {v : Value} (hc : tabV a b c v w) : tabV a b c v w' := by
  obtain ⟨B, h0, h1, h2, h3⟩ := hc
  exact ⟨B, h0, cell_on h h1, cell_on h h2, cell_on h h3⟩
theorem celV_on {w w' : World} (h : Below w.heap.size w w') {K : List UInt8} {v : Value} (hc : celV K v w) : celV K v w' := by
  obtain ⟨B, h0, h1⟩ := hc
  exact ⟨B, h0, cell_on h h1⟩
theorem txV_on {hp : Nat} {id kind x y q : Int} {K S1 S2 S3 Qs P1 P2 P3 P4 P5 P6 P7 P8 : List UInt8} (i : Nat) (v : Value) (w w' : World) (hv : txV hp id kind x y q K S1 S2 S3 Qs P1 P2 P3 P4 P5 P6 P7 P8 i v w) (h : Below w.heap.size w w') : txV hp id kind x y q K S1 S2 S3 Qs P1 P2 P3 P4 P5 P6 P7 P8 i v w' := by
  unfold txV at hv ⊢
  split at hv <;> first | exact tabV_on h hv | exact celV_on h hv | exact hv
set_option maxRecDepth 100000 in
set_option maxHeartbeats 6000000 in
theorem specText_yes (s : DG) (w : World) (h : okD s = true) : Calls Tryd.prog 5 #[.agg #[.int .i64 s.id, .int .i64 s.kind, .int .i64 s.x, .int .i64 s.y, .int .i64 s.least, .int .i64 s.quality, .int .i64 s.seen]] w fun e w' => e = .returned (.tuple #[.string ⟨(dgS s).toArray⟩, .bool true]) ∧ Below w.heap.size w w' := by
  obtain ⟨⟨_, _⟩, ⟨_, _⟩, ⟨_, _⟩, ⟨_, _⟩, _⟩ := okD_bd h
  obtain ⟨⟨_, _⟩, ⟨_, _⟩⟩ := spotB_iff.1 (okD_spot h)
  have hi := fun W => l17One_any s W
  rw [h] at hi
  have HI := Lib.hid hi
  have HD : Hid (dgS s = kindS s.kind ++ [32] ++ Lib.itoa s.id ++ [32, 97, 116, 32] ++ Lib.itoa s.x ++ [44] ++ Lib.itoa s.y ++ [58, 32] ++ qualS s.quality ++ Lib.itoa s.least ++ [32, 99, 109]) := rfl
  have l3 := itoa_len (n := s.id) (by omega) (by omega)
  have l4 := itoa_len (n := s.x) (by omega) (by omega)
  have l5 := itoa_len (n := s.y) (by omega) (by omega)
  have l6 := itoa_len (n := s.least) (by omega) (by omega)
  have H1 := Lib.hid (fun W => l1Num_any s.id W (by omega) (by omega))
  have H2 := Lib.hid (fun W => l1Num_any s.x W (by omega) (by omega))
  have H3 := Lib.hid (fun W => l1Num_any s.y W (by omega) (by omega))
  have H4 := Lib.hid (fun W => l1Num_any s.least W (by omega) (by omega))
  have H5 := Lib.hid (fun (hneg : s.least < 0) W => l1Num_any (-s.least) W (by omega) (by omega))
  have HN := Lib.hid (fun (hneg : s.least < 0) => show Lib.itoa s.least = 45 :: Lib.itoa (-s.least) by rw [Lib.itoa, Lib.itoa, if_pos hneg, if_neg (by omega)]; congr 2; omega)
  have hk : s.kind = 0 ∨ s.kind = 1 ∨ s.kind = 2 := by omega
  have hq : s.quality = 0 ∨ s.quality = 1 ∨ s.quality = 2 := by omega
  generalize Lib.itoa s.id = S1 at H1 HD l3
  generalize Lib.itoa s.x = S2 at H2 HD l4
  generalize Lib.itoa s.y = S3 at H3 HD l5
  have lk := kindS_len s.kind
  have lq := qualS_len s.quality
  clear h hi
  obtain ⟨id, kind, x, y, least, q, seen⟩ := s
  simp only at *
  have HKc : Hid ((kind = 0 ∧ kindS kind = [119, 114, 101, 99, 107]) ∨ (kind = 1 ∧ kindS kind = [114, 111, 99, 107]) ∨ (kind = 2 ∧ kindS kind = [99, 97, 98, 108, 101])) := by
    rcases hk with rfl | rfl | rfl <;> simp [Hid, kindS]
  have HQc : Hid ((q = 0 ∧ qualS q = []) ∨ (q = 1 ∧ qualS q = [97, 116, 32, 108, 101, 97, 115, 116, 32]) ∨ (q = 2 ∧ qualS q = [112, 101, 114, 104, 97, 112, 115, 32])) := by
    rcases hq with rfl | rfl | rfl <;> simp [Hid, qualS]
  generalize kindS kind = K at HKc HD lk
  generalize qualS q = Qs at HQc HD lq
  obtain ⟨P1, hP1⟩ : ∃ P, P = K ++ [32] := ⟨_, rfl⟩
  obtain ⟨P2, hP2⟩ : ∃ P, P = P1 ++ S1 := ⟨_, rfl⟩
  obtain ⟨P3, hP3⟩ : ∃ P, P = P2 ++ [32, 97, 116, 32] := ⟨_, rfl⟩
  obtain ⟨P4, hP4⟩ : ∃ P, P = P3 ++ S2 := ⟨_, rfl⟩
  obtain ⟨P5, hP5⟩ : ∃ P, P = P4 ++ [44] := ⟨_, rfl⟩
  obtain ⟨P6, hP6⟩ : ∃ P, P = P5 ++ S3 := ⟨_, rfl⟩
  obtain ⟨P7, hP7⟩ : ∃ P, P = P6 ++ [58, 32] := ⟨_, rfl⟩
  obtain ⟨S, hP8⟩ : ∃ P, P = P7 ++ Qs := ⟨_, rfl⟩
  rw [← hP1, ← hP2, ← hP3, ← hP4, ← hP5, ← hP6, ← hP7, ← hP8] at HD
  have e1 : P1.length = K.length + 1 := by rw [hP1]; simp
  have e2 : P2.length = P1.length + S1.length := by rw [hP2]; simp
  have e3 : P3.length = P2.length + 4 := by rw [hP3]; simp
  have e4 : P4.length = P3.length + S2.length := by rw [hP4]; simp
  have e5 : P5.length = P4.length + 1 := by rw [hP5]; simp
  have e6 : P6.length = P5.length + S3.length := by rw [hP6]; simp
  have e7 : P7.length = P6.length + 2 := by rw [hP7]; simp
  have e8 : S.length = P7.length + Qs.length := by rw [hP8]; simp
  have HP1 := Lib.hid hP1
  have HP2 := Lib.hid hP2
  have HP3 := Lib.hid hP3
  have HP4 := Lib.hid hP4
  have HP5 := Lib.hid hP5
  have HP6 := Lib.hid hP6
  have HP7 := Lib.hid hP7
  have HP8 := Lib.hid hP8
  clear hP1 hP2 hP3 hP4 hP5 hP6 hP7 hP8
  have m1 : ¬ 9223372036854775807 < K.length + 1 := by omega
  have m2 : ¬ 9223372036854775807 < P1.length + S1.length := by omega
  have m3 : ¬ 9223372036854775807 < P2.length + 4 := by omega
  have m4 : ¬ 9223372036854775807 < P3.length + S2.length := by omega
  have m5 : ¬ 9223372036854775807 < P4.length + 1 := by omega
  have m6 : ¬ 9223372036854775807 < P5.length + S3.length := by omega
  have m7 : ¬ 9223372036854775807 < P6.length + 2 := by omega
  have m8 : ¬ 9223372036854775807 < P7.length + Qs.length := by omega
  have hSl : S.length ≤ 200 := by omega
  clear e1 e2 e3 e4 e5 e6 e7 e8
  go_enter Tryd.func5, Tryd.ntmps5
  go_wp2_with fail
  refine (HI.out _).mono ?_
  rintro e w1 ⟨rfl, hbw1⟩
  obtain ⟨hzw1, hcw1, hfw1⟩ := bfacts hbw1; (try simp at hzw1 hcw1 hfw1); (try (have : w.heap.size < w1.heap.size := by omega)); (try (have : w.heap.size + 1 < w1.heap.size := by omega)); (try (have : w.heap.size + 1 + 1 < w1.heap.size := by omega)); (try (have : w.heap.size + 1 + 1 + 1 < w1.heap.size := by omega))
  have K0 := Lib.hid (show w1.cell? ⟨w.heap.size, 0, none⟩ = some (.int .i64 id) by simp [hcw1])
  have K1 := Lib.hid (show w1.cell? ⟨w.heap.size, 1, none⟩ = some (.int .i64 kind) by simp [hcw1])
  have K2 := Lib.hid (show w1.cell? ⟨w.heap.size, 2, none⟩ = some (.int .i64 x) by simp [hcw1])
  have K3 := Lib.hid (show w1.cell? ⟨w.heap.size, 3, none⟩ = some (.int .i64 y) by simp [hcw1])
  have K5 := Lib.hid (show w1.cell? ⟨w.heap.size, 5, none⟩ = some (.int .i64 q) by simp [hcw1])
  go_upto_region 3 with fail
  go_cut [4] (fun v4 wx => v4 = .string ⟨S.toArray⟩ ∧ Below w1.heap.size w1 wx)
  case first =>
    clear hcw1
    refine wpRegion_slots (fun (g : Nat → Value) => ({ tmps := #[.agg #[.int .i64 id, .int .i64 kind, .int .i64 x, .int .i64 y, .int .i64 least, .int .i64 q, .int .i64 seen], .pointer (some ⟨w.heap.size, 0, none⟩), .string ⟨#[]⟩, .bool false, g 4, .agg #[.int .i64 id, .int .i64 kind, .int .i64 x, .int .i64 y, .int .i64 least, .int .i64 q, .int .i64 seen], .bool true, .bool false, g 8, g 9, g 10, g 11, g 12, g 13, g 14, g 15, g 16, g 17, g 18, g 19, g 20, g 21, g 22, g 23, g 24, g 25, g 26, g 27, g 28, g 29, g 30, g 31, g 32, g 33, g 34, g 35, g 36, undef, undef, undef, undef, undef, undef, undef, undef, undef, undef, undef, undef, undef, undef, undef, undef, undef], defers := [] } : Act)) txD (txV w.heap.size id kind x y q K S1 S2 S3 Qs P1 P2 P3 P4 P5 P6 P7 S) (fun w' => Below w1.heap.size w1 w') (fun a b => Below a.heap.size a b) (fun _ => undef) (by kernel_rfl) (regAc (by kernel_rfl)).1 (regAc (by kernel_rfl)).2 rfl ⟨rfl, rfl, rfl, Nat.le_refl _, fun _ _ => rfl⟩ ?_ ?_ txV_on ?_ ?_
    · intro i j hi hj h
      have hi : i < 30 := hi
      have hj : j < 30 := hj
      unfold txD at h
      split at h <;> split at h <;> omega
    · intro i o g v ho
      iterate 30 (rcases i with _ | i; · (simp only [List.getElem?_toArray, List.getElem?_cons_succ, List.getElem?_cons_zero, Option.some.injEq] at ho; subst ho; kernel_rfl))
      simp at ho
    · intro i o g wx ho hSx he A hK
      have hSon : ∀ w2, Below wx.heap.size wx w2 → Below w1.heap.size w1 w2 := fun w2 hb => hSx.trans (hb.mono hSx.size)
      rcases i with _ | i
      · simp only [List.getElem?_toArray, List.getElem?_cons_zero, Option.some.injEq] at ho
        subst ho
        clear he
        go_simp
        exact hK _ _ ⟨wx.heap.size, rfl, by simp, by simp, by simp⟩ (hSon _ (Below.alloc (Below.refl _ _) (Nat.le_refl _) _)) (Below.alloc (Below.refl _ _) (Nat.le_refl _) _)
      rcases i with _ | i
      · simp only [List.getElem?_toArray, List.getElem?_cons_succ, List.getElem?_cons_zero, Option.some.injEq] at ho
        subst ho
        clear he
        go_simp
        exact hK (.pointer (some ⟨w.heap.size, 1, none⟩)) wx rfl hSx (Below.refl _ _)
      rcases i with _ | i
      · simp only [List.getElem?_toArray, List.getElem?_cons_succ, List.getElem?_cons_zero, Option.some.injEq] at ho
        subst ho
        have d1 : g 9 = .pointer (some ⟨w.heap.size, 1, none⟩) := he ⟨1, .data⟩ (by simp) rfl
        clear he
        have kc := cell_on hSx K1.out
        go_simp
        have hk := hK (.int .i64 kind) wx rfl hSx (Below.refl _ _); simp only [d1] at hk; exact hk
      rcases i with _ | i
      · simp only [List.getElem?_toArray, List.getElem?_cons_succ, List.getElem?_cons_zero, Option.some.injEq] at ho
        subst ho
        obtain ⟨B, d0, c0, c1, c2⟩ := (show tabV _ _ _ (g 8) wx from he ⟨0, .data⟩ (by simp) rfl)
        have d2 : g 10 = .int .i64 kind := he ⟨2, .data⟩ (by simp) rfl
        clear he
        rcases HKc.out with ⟨rfl, rfl⟩ | ⟨rfl, rfl⟩ | ⟨rfl, rfl⟩
        · (go_simp; have hk := hK (.pointer (some ⟨B, 0, none⟩)) wx ⟨_, rfl, c0⟩ hSx (Below.refl _ _); simp only [d0, d2] at hk; exact hk)
        · (go_simp; have hk := hK (.pointer (some ⟨B, 1, none⟩)) wx ⟨_, rfl, c1⟩ hSx (Below.refl _ _); simp only [d0, d2] at hk; exact hk)
        · (go_simp; have hk := hK (.pointer (some ⟨B, 2, none⟩)) wx ⟨_, rfl, c2⟩ hSx (Below.refl _ _); simp only [d0, d2] at hk; exact hk)
      rcases i with _ | i
      · simp only [List.getElem?_toArray, List.getElem?_cons_succ, List.getElem?_cons_zero, Option.some.injEq] at ho
        subst ho
        obtain ⟨ad, d3, c0⟩ := (show celV K (g 11) wx from he ⟨3, .data⟩ (by simp) rfl)
        clear he
        go_simp
        have hk := hK (.string ⟨K.toArray⟩) wx rfl hSx (Below.refl _ _); simp only [d3] at hk; exact hk
      rcases i with _ | i
      · simp only [List.getElem?_toArray, List.getElem?_cons_succ, List.getElem?_cons_zero, Option.some.injEq] at ho
        subst ho
        have d4 : g 12 = .string ⟨K.toArray⟩ := he ⟨4, .data⟩ (by simp) rfl
        clear he
        go_simp
        have hk := hK (.string ⟨P1.toArray⟩) wx rfl hSx (Below.refl _ _); simp only [d4] at hk; rw [HP1.out] at hk; first | exact hk | simpa [ba_app] using hk
      rcases i with _ | i
      · simp only [List.getElem?_toArray, List.getElem?_cons_succ, List.getElem?_cons_zero, Option.some.injEq] at ho
        subst ho
        clear he
        go_simp
        exact hK (.pointer (some ⟨w.heap.size, 0, none⟩)) wx rfl hSx (Below.refl _ _)
      rcases i with _ | i
      · simp only [List.getElem?_toArray, List.getElem?_cons_succ, List.getElem?_cons_zero, Option.some.injEq] at ho
        subst ho
        have d6 : g 14 = .pointer (some ⟨w.heap.size, 0, none⟩) := he ⟨6, .data⟩ (by simp) rfl
        clear he
        have kc := cell_on hSx K0.out
        go_simp
        have hk := hK (.int .i64 id) wx rfl hSx (Below.refl _ _); simp only [d6] at hk; exact hk
      rcases i with _ | i
      · simp only [List.getElem?_toArray, List.getElem?_cons_succ, List.getElem?_cons_zero, Option.some.injEq] at ho
        subst ho
        have d7 : g 15 = .int .i64 id := he ⟨7, .data⟩ (by simp) rfl
        clear he
        go_simp
        go_at_call 27
        with_reducible refine (H1.out _).mono ?_
        rintro e w2 ⟨rfl, hb2⟩
        have hk := hK (.string ⟨S1.toArray⟩) w2 rfl (hSon _ hb2) hb2; simp only [d7] at hk; exact hk
      rcases i with _ | i
      · simp only [List.getElem?_toArray, List.getElem?_cons_succ, List.getElem?_cons_zero, Option.some.injEq] at ho
        subst ho
        have d5 : g 13 = .string ⟨P1.toArray⟩ := he ⟨5, .data⟩ (by simp) rfl
        have d8 : g 16 = .string ⟨S1.toArray⟩ := he ⟨8, .data⟩ (by simp) rfl
        clear he
        go_simp
        have hk := hK (.string ⟨P2.toArray⟩) wx rfl hSx (Below.refl _ _); simp only [d5, d8] at hk; rw [HP2.out] at hk; first | exact hk | simpa [ba_app] using hk
      rcases i with _ | i
      · simp only [List.getElem?_toArray, List.getElem?_cons_succ, List.getElem?_cons_zero, Option.some.injEq] at ho
        subst ho
        have d9 : g 17 = .string ⟨P2.toArray⟩ := he ⟨9, .data⟩ (by simp) rfl
        clear he
        go_simp
        have hk := hK (.string ⟨P3.toArray⟩) wx rfl hSx (Below.refl _ _); simp only [d9] at hk; rw [HP3.out] at hk; first | exact hk | simpa [ba_app] using hk
      rcases i with _ | i
      · simp only [List.getElem?_toArray, List.getElem?_cons_succ, List.getElem?_cons_zero, Option.some.injEq] at ho
        subst ho
        clear he
        go_simp
        exact hK (.pointer (some ⟨w.heap.size, 2, none⟩)) wx rfl hSx (Below.refl _ _)
      rcases i with _ | i
      · simp only [List.getElem?_toArray, List.getElem?_cons_succ, List.getElem?_cons_zero, Option.some.injEq] at ho
        subst ho
        have d11 : g 19 = .pointer (some ⟨w.heap.size, 2, none⟩) := he ⟨11, .data⟩ (by simp) rfl
        clear he
        go_simp
        have hk := hK (.pointer (some ⟨w.heap.size, 2, none⟩)) wx rfl hSx (Below.refl _ _); simp only [d11] at hk; exact hk
      rcases i with _ | i
      · simp only [List.getElem?_toArray, List.getElem?_cons_succ, List.getElem?_cons_zero, Option.some.injEq] at ho
        subst ho
        have d12 : g 20 = .pointer (some ⟨w.heap.size, 2, none⟩) := he ⟨12, .data⟩ (by simp) rfl
        clear he
        have kc := cell_on hSx K2.out
        go_simp
        have hk := hK (.int .i64 x) wx rfl hSx (Below.refl _ _); simp only [d12] at hk; exact hk
      rcases i with _ | i
      · simp only [List.getElem?_toArray, List.getElem?_cons_succ, List.getElem?_cons_zero, Option.some.injEq] at ho
        subst ho
        have d13 : g 21 = .int .i64 x := he ⟨13, .data⟩ (by simp) rfl
        clear he
        go_simp
        go_at_call 27
        with_reducible refine (H2.out _).mono ?_
        rintro e w2 ⟨rfl, hb2⟩
        have hk := hK (.string ⟨S2.toArray⟩) w2 rfl (hSon _ hb2) hb2; simp only [d13] at hk; exact hk
      rcases i with _ | i
      · simp only [List.getElem?_toArray, List.getElem?_cons_succ, List.getElem?_cons_zero, Option.some.injEq] at ho
        subst ho
        have d10 : g 18 = .string ⟨P3.toArray⟩ := he ⟨10, .data⟩ (by simp) rfl
        have d14 : g 22 = .string ⟨S2.toArray⟩ := he ⟨14, .data⟩ (by simp) rfl
        clear he
        go_simp
        have hk := hK (.string ⟨P4.toArray⟩) wx rfl hSx (Below.refl _ _); simp only [d10, d14] at hk; rw [HP4.out] at hk; first | exact hk | simpa [ba_app] using hk
      rcases i with _ | i
      · simp only [List.getElem?_toArray, List.getElem?_cons_succ, List.getElem?_cons_zero, Option.some.injEq] at ho
        subst ho
        have d15 : g 23 = .string ⟨P4.toArray⟩ := he ⟨15, .data⟩ (by simp) rfl
        clear he
        go_simp
        have hk := hK (.string ⟨P5.toArray⟩) wx rfl hSx (Below.refl _ _); simp only [d15] at hk; rw [HP5.out] at hk; first | exact hk | simpa [ba_app] using hk
      rcases i with _ | i
      · simp only [List.getElem?_toArray, List.getElem?_cons_succ, List.getElem?_cons_zero, Option.some.injEq] at ho
        subst ho
        clear he
        go_simp
        exact hK (.pointer (some ⟨w.heap.size, 2, none⟩)) wx rfl hSx (Below.refl _ _)
      rcases i with _ | i
      · simp only [List.getElem?_toArray, List.getElem?_cons_succ, List.getElem?_cons_zero, Option.some.injEq] at ho
        subst ho
        have d17 : g 25 = .pointer (some ⟨w.heap.size, 2, none⟩) := he ⟨17, .data⟩ (by simp) rfl
        clear he
        go_simp
        have hk := hK (.pointer (some ⟨w.heap.size, 3, none⟩)) wx rfl hSx (Below.refl _ _); simp only [d17] at hk; exact hk
      rcases i with _ | i
      · simp only [List.getElem?_toArray, List.getElem?_cons_succ, List.getElem?_cons_zero, Option.some.injEq] at ho
        subst ho
        have d18 : g 26 = .pointer (some ⟨w.heap.size, 3, none⟩) := he ⟨18, .data⟩ (by simp) rfl
        clear he
        have kc := cell_on hSx K3.out
        go_simp
        have hk := hK (.int .i64 y) wx rfl hSx (Below.refl _ _); simp only [d18] at hk; exact hk
      rcases i with _ | i
      · simp only [List.getElem?_toArray, List.getElem?_cons_succ, List.getElem?_cons_zero, Option.some.injEq] at ho
        subst ho
        have d19 : g 27 = .int .i64 y := he ⟨19, .data⟩ (by simp) rfl
        clear he
        go_simp
        go_at_call 27
        with_reducible refine (H3.out _).mono ?_
        rintro e w2 ⟨rfl, hb2⟩
        have hk := hK (.string ⟨S3.toArray⟩) w2 rfl (hSon _ hb2) hb2; simp only [d19] at hk; exact hk
      rcases i with _ | i
      · simp only [List.getElem?_toArray, List.getElem?_cons_succ, List.getElem?_cons_zero, Option.some.injEq] at ho
        subst ho
        have d16 : g 24 = .string ⟨P5.toArray⟩ := he ⟨16, .data⟩ (by simp) rfl
        have d20 : g 28 = .string ⟨S3.toArray⟩ := he ⟨20, .data⟩ (by simp) rfl
        clear he
        go_simp
        have hk := hK (.string ⟨P6.toArray⟩) wx rfl hSx (Below.refl _ _); simp only [d16, d20] at hk; rw [HP6.out] at hk; first | exact hk | simpa [ba_app] using hk
      rcases i with _ | i
      · simp only [List.getElem?_toArray, List.getElem?_cons_succ, List.getElem?_cons_zero, Option.some.injEq] at ho
        subst ho
        have d21 : g 29 = .string ⟨P6.toArray⟩ := he ⟨21, .data⟩ (by simp) rfl
        clear he
        go_simp
        have hk := hK (.string ⟨P7.toArray⟩) wx rfl hSx (Below.refl _ _); simp only [d21] at hk; rw [HP7.out] at hk; first | exact hk | simpa [ba_app] using hk
      rcases i with _ | i
      · simp only [List.getElem?_toArray, List.getElem?_cons_succ, List.getElem?_cons_zero, Option.some.injEq] at ho
        subst ho
        clear he
        go_simp
        exact hK _ _ ⟨wx.heap.size, rfl, by simp, by simp, by simp⟩ (hSon _ (Below.alloc (Below.refl _ _) (Nat.le_refl _) _)) (Below.alloc (Below.refl _ _) (Nat.le_refl _) _)
      rcases i with _ | i
      · simp only [List.getElem?_toArray, List.getElem?_cons_succ, List.getElem?_cons_zero, Option.some.injEq] at ho
        subst ho
        clear he
        go_simp
        exact hK (.pointer (some ⟨w.heap.size, 5, none⟩)) wx rfl hSx (Below.refl _ _)
      rcases i with _ | i
      · simp only [List.getElem?_toArray, List.getElem?_cons_succ, List.getElem?_cons_zero, Option.some.injEq] at ho
        subst ho
        have d24 : g 32 = .pointer (some ⟨w.heap.size, 5, none⟩) := he ⟨24, .data⟩ (by simp) rfl
        clear he
        have kc := cell_on hSx K5.out
        go_simp
        have hk := hK (.int .i64 q) wx rfl hSx (Below.refl _ _); simp only [d24] at hk; exact hk
      rcases i with _ | i
      · simp only [List.getElem?_toArray, List.getElem?_cons_succ, List.getElem?_cons_zero, Option.some.injEq] at ho
        subst ho
        obtain ⟨B, d23, c0, c1, c2⟩ := (show tabV _ _ _ (g 31) wx from he ⟨23, .data⟩ (by simp) rfl)
        have d25 : g 33 = .int .i64 q := he ⟨25, .data⟩ (by simp) rfl
        clear he
        rcases HQc.out with ⟨rfl, rfl⟩ | ⟨rfl, rfl⟩ | ⟨rfl, rfl⟩
        · (go_simp; have hk := hK (.pointer (some ⟨B, 0, none⟩)) wx ⟨_, rfl, c0⟩ hSx (Below.refl _ _); simp only [d23, d25] at hk; exact hk)
        · (go_simp; have hk := hK (.pointer (some ⟨B, 1, none⟩)) wx ⟨_, rfl, c1⟩ hSx (Below.refl _ _); simp only [d23, d25] at hk; exact hk)
        · (go_simp; have hk := hK (.pointer (some ⟨B, 2, none⟩)) wx ⟨_, rfl, c2⟩ hSx (Below.refl _ _); simp only [d23, d25] at hk; exact hk)
      rcases i with _ | i
      · simp only [List.getElem?_toArray, List.getElem?_cons_succ, List.getElem?_cons_zero, Option.some.injEq] at ho
        subst ho
        obtain ⟨ad, d26, c0⟩ := (show celV Qs (g 34) wx from he ⟨26, .data⟩ (by simp) rfl)
        clear he
        go_simp
        have hk := hK (.string ⟨Qs.toArray⟩) wx rfl hSx (Below.refl _ _); simp only [d26] at hk; exact hk
      rcases i with _ | i
      · simp only [List.getElem?_toArray, List.getElem?_cons_succ, List.getElem?_cons_zero, Option.some.injEq] at ho
        subst ho
        have d22 : g 30 = .string ⟨P7.toArray⟩ := he ⟨22, .data⟩ (by simp) rfl
        have d27 : g 35 = .string ⟨Qs.toArray⟩ := he ⟨27, .data⟩ (by simp) rfl
        clear he
        go_simp
        have hk := hK (.string ⟨S.toArray⟩) wx rfl hSx (Below.refl _ _); simp only [d22, d27] at hk; rw [HP8.out] at hk; first | exact hk | simpa [ba_app] using hk
      rcases i with _ | i
      · simp only [List.getElem?_toArray, List.getElem?_cons_succ, List.getElem?_cons_zero, Option.some.injEq] at ho
        subst ho
        have d28 : g 36 = .string ⟨S.toArray⟩ := he ⟨28, .data⟩ (by simp) rfl
        clear he
        go_simp
        have hk := hK (.string ⟨S.toArray⟩) wx rfl hSx (Below.refl _ _); simp only [d28] at hk; exact hk
      simp at ho
    · intro g wx hSx hv
      have hv4 : g 4 = .string ⟨S.toArray⟩ := hv 29 (by decide)
      dsimp only
      rw [hv4]
      go_wp2_with fail
      go_meet
      exact ⟨rfl, hSx⟩
  obtain ⟨rfl, hbc⟩ := hcut
  have hzc := hbc.size
  obtain ⟨_, hcc, hfc⟩ := bfacts hbc
  by_cases hneg : least < 0
  · have HV := Lib.hid (HN.out hneg)
    have H6 := Lib.hid (H5.out hneg)
    have l7 := itoa_len (n := -least) (by omega) (by omega)
    generalize Lib.itoa (-least) = S5 at HV H6 l7
    have n1 : ¬ 9223372036854775807 < S.length + 1 := by omega
    have n2 : ¬ 9223372036854775807 < S.length + 1 + S5.length := by omega
    have n3 : ¬ 9223372036854775807 < S.length + 1 + S5.length + 3 := by omega
    clear l3 l4 l5 l6 l7 hSl HN H5
    go_wp2_with fail
    refine (H6.out _).mono ?_
    rintro e w5 ⟨rfl, hbw5⟩
    go_wp2
    go_ret2
    refine ⟨?_, by repeat' (first | (with_reducible exact Below.refl _ _) | (with_reducible assumption) | (with_reducible refine Below.alloc ?_ ?_ _) | (with_reducible refine Below.drew ?_) | (with_reducible refine Below.setCell ?_ ?_ _) | (with_reducible refine Below.stepB (by assumption) ?_ ?_) | go_size)⟩
    rw [HD.out, HV.out]
    simp [ba_app]
  · generalize Lib.itoa least = S4 at HD H4 l6
    have n2 : ¬ 9223372036854775807 < S.length + S4.length := by omega
    have n3 : ¬ 9223372036854775807 < S.length + S4.length + 3 := by omega
    clear l3 l4 l5 l6 hSl HN H5
    go_wp2_with fail
    refine (H4.out _).mono ?_
    rintro e w5 ⟨rfl, hbw5⟩
    go_wp2
    go_ret2
    refine ⟨?_, by repeat' (first | (with_reducible exact Below.refl _ _) | (with_reducible assumption) | (with_reducible refine Below.alloc ?_ ?_ _) | (with_reducible refine Below.drew ?_) | (with_reducible refine Below.setCell ?_ ?_ _) | (with_reducible refine Below.stepB (by assumption) ?_ ?_) | go_size)⟩
    rw [HD.out]
    simp [ba_app]
end Go.Proofs.YtclcgckledbpfaaDoor
