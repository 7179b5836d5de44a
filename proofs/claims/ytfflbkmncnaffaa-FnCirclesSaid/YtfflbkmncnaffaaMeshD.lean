/- Contracts of the program's function that tells what a mesh is. -/
import Derived.Test.YtfflbkmncnaffaaMeshC
namespace Go.Proofs.Ytfflbkmncnaffaa
open Go.RowKit
theorem Sl.take {w : World} {k n n' : Nat} {A : Option Addr} {g : Nat → Nat → Value} (h : Sl w k A n g) (hn : n' ≤ n) : Sl w k A n' g := fun h0 => by
  obtain ⟨b, off, hA, hb, hc⟩ := h (by omega)
  exact ⟨b, off, hA, hb, fun i j hi hj => hc i j (by omega) hj⟩
theorem slI_blk3 {w : World} {g : Nat} {t : TypeId} {u : Nat → Int} (h : Blk w g t #[.int .i64 (u 0), .int .i64 (u 1), .int .i64 (u 2)]) : SlI w (some ⟨g, 0, none⟩) 3 u := fun _ => by
  refine ⟨g, 0, rfl, h.lt, fun i j hi hj => ?_⟩
  obtain rfl : j = 0 := by omega
  rw [h.cell]
  have : i = 0 ∨ i = 1 ∨ i = 2 := by omega
  rcases this with rfl | rfl | rfl <;> rfl
theorem slI_row3 {w : World} {b off k n : Nat} {T : Nat → Nat → Int} (h : SlT w (some ⟨b, off, none⟩) n T) (hk : k < n) : SlI w (some ⟨b, off + k * 3, none⟩) 3 (T k) := fun _ => by
  obtain ⟨b', off', hA, hbl, hc⟩ := h (by omega)
  obtain ⟨rfl, rfl⟩ : b = b' ∧ off = off' := by simpa using hA
  refine ⟨b, off + k * 3, rfl, hbl, fun i j hi hj => ?_⟩
  obtain rfl : j = 0 := by omega
  have := hc k i hk hi
  rw [Nat.mul_one, Nat.add_zero]
  exact this
theorem isCn_has (t : Nat → Int) (k : Int) : hasP (fun j => decide (k = t j)) 3 = isCn t k := by
  rw [hasP_succ, hasP_succ, hasP_succ]
  unfold isCn
  have e0 : hasP (fun j => decide (k = t j)) 0 = false := rfl
  rw [e0, Bool.false_or, Bool.or_assoc, Bool.eq_iff_iff]
  simp only [Bool.or_eq_true, decide_eq_true_eq]
  constructor <;> (rintro (h | h | h) <;> simp [h])
set_option maxHeartbeats 16000000 in
set_option maxRecDepth 100000 in
theorem IsMesh_yes (A : Option Addr) (n c : Nat) (S : Nat → SP) (A2 : Option Addr) (m c2 : Nat) (T : Nat → Nat → Int) (w : World) (hS : SlSP w A n S) (hS2 : SlT w A2 m T) (hn : n ≤ 1048576) (hm : m ≤ 1048576) (hc : n ≤ c) (hc2 : m ≤ c2)
    (q1 : inB n 3 8 = true) (q2 : spotsB S n = true) (q3 : inB m 1 12 = true) :
    Calls Try.prog 21 #[.slice A n c, .slice A2 m c2] w fun e w' => e = .returned (.bool (meshB S n T m)) ∧ Below w.heap.size w w' := by
  have HV : Hid (meshB S n T m = (distB S n && allUpto (triOk S n T) m)) := by show _ = _; rw [meshB, q1, q2, q3]; rfl
  have hsp : ∀ i, i < n → spB (S i) = true := fun i hi => by
    simp only [spotsB, Bool.and_eq_true] at q2
    exact allUpto_lt q2.1 i hi
  have HSP := Lib.hid hsp
  have ha := fun W (hb : Below w.heap.size w W) => AreSpots_any A n c S W (hS.below hb) hn
  rw [q2] at ha
  have HA := Lib.hid ha
  have HS := Lib.hid hS
  have HS2 := Lib.hid hS2
  clear hS2 hsp ha q2
  go_enter Try.func21, Try.ntmps21
  go_wp2_with (first | (go_at_call 79; refine (inside_any _ _ _ _).mono ?_; rintro e w' ⟨rfl, rfl⟩) | (go_at_call 80; refine (HA.out _ (by repeat' (first | (with_reducible exact Below.refl _ _) | (with_reducible assumption) | (with_reducible refine Below.alloc ?_ ?_ _) | (with_reducible refine Below.drew ?_) | (with_reducible refine Below.setCell ?_ ?_ _) | (with_reducible refine Below.stepB (by assumption) ?_ ?_) | go_size))).mono ?_; rintro e w1 ⟨rfl, hbw1⟩; obtain ⟨hzw1, hcw1, hfw1⟩ := bfacts hbw1; (try simp at hzw1 hcw1 hfw1); (try (have : w.heap.size < w1.heap.size := by omega)); (try (have : w.heap.size + 1 < w1.heap.size := by omega)); (try (have : w.heap.size + 1 + 1 < w1.heap.size := by omega)); (try (have : w.heap.size + 1 + 1 + 1 < w1.heap.size := by omega))))
  clear q1 q3
  go_loopw [32] (fun v wr => ∃ k : Nat, k ≤ n ∧ v = .int .i64 k ∧ Hid (allUpto (fun i => !dupB S i) k = true) ∧ Below w.heap.size w wr) (fun v _ => n - (intOf v).toNat)
  case atStart => exact ⟨0, Nat.zero_le _, rfl, rfl, by repeat' (first | (with_reducible exact Below.refl _ _) | (with_reducible assumption) | (with_reducible refine Below.alloc ?_ ?_ _) | (with_reducible refine Below.drew ?_) | (with_reducible refine Below.setCell ?_ ?_ _) | (with_reducible refine Below.stepB (by assumption) ?_ ?_) | go_size)⟩
  case round =>
    obtain ⟨k, hk, rfl, hall, hbr⟩ := hrel
    have hzr := hbr.size
    by_cases hlt : k < n
    · obtain ⟨b, off, rfl, hbl, hbl2, x0, x1, hx⟩ := hS.at hbr hlt
      have hkc : k ≤ c := by omega
      have HC := Lib.hid (fun (x : Later (wr.alloc (.cells #[.int .i64 (S k).x, .int .i64 (S k).y] 26))) => containsSp_any (some ⟨b, off, none⟩) k c S (S k) x.w ((Sl.take HS.out (by omega)).below (Later.old x (B := w.heap.size) (hbr.alloc (by omega) _) (by simp; omega))) (by omega))
      have HD : Hid (hasP (fun j => decide ((S j).x = (S k).x ∧ (S j).y = (S k).y)) k = dupB S k) := rfl
      rw [HD.out] at HC
      clear hx hS
      generalize hd : dupB S k = d at HC
      have HDD := Lib.hid hd
      clear hd HD
      have HBR := Lib.hid hbr
      cases d
      · have HN : Hid (allUpto (fun i => !dupB S i) (k + 1) = true) := allUpto_hit hall (by rw [HDD.out]; rfl)
        go_wp2_with fail
        refine wp_region_later (by kernel_rfl) (by kernel_rfl) (fun hlx => ?_)
        repeat (go_big_quiet_step ((go_at_call 81; with_reducible exact Later.call (HC.out _))))
        refine wpQuiet_nil ?_
        clear hlx
        intro w3 hbw3
        obtain ⟨hzw3, hcw3, hfw3⟩ := bfacts hbw3; (try simp at hzw3 hcw3 hfw3); (try (have : w.heap.size < w3.heap.size := by omega)); (try (have : w.heap.size + 1 < w3.heap.size := by omega)); (try (have : w.heap.size + 1 + 1 < w3.heap.size := by omega)); (try (have : w.heap.size + 1 + 1 + 1 < w3.heap.size := by omega))
        go_wp2
        go_roundw
        case rel => exact ⟨k + 1, by omega, by go_num, HN, by repeat' (first | (with_reducible exact Below.refl _ _) | (with_reducible assumption) | (with_reducible refine Below.alloc ?_ ?_ _) | (with_reducible refine Below.drew ?_) | (with_reducible refine Below.setCell ?_ ?_ _) | (with_reducible refine Below.stepB (by assumption) ?_ ?_) | go_size)⟩
        case measure => simp [intOf]; omega
      · have HN : Hid (false = meshB S n T m) := by show _ = _; rw [HV.out, distB, allUpto_not (k := k) (by rw [HDD.out]; rfl) n hlt]; rfl
        go_wp2_with fail
        refine wp_region_later (by kernel_rfl) (by kernel_rfl) (fun hlx => ?_)
        repeat (go_big_quiet_step ((go_at_call 81; with_reducible exact Later.call (HC.out _))))
        refine wpQuiet_nil ?_
        clear hlx
        intro w3 hbw3
        obtain ⟨hzw3, hcw3, hfw3⟩ := bfacts hbw3; (try simp at hzw3 hcw3 hfw3); (try (have : w.heap.size < w3.heap.size := by omega)); (try (have : w.heap.size + 1 < w3.heap.size := by omega)); (try (have : w.heap.size + 1 + 1 < w3.heap.size := by omega)); (try (have : w.heap.size + 1 + 1 + 1 < w3.heap.size := by omega))
        go_wp2
        go_ret
        exact ⟨ret_bool HN.out, by repeat' (first | (with_reducible exact Below.refl _ _) | (with_reducible assumption) | (with_reducible refine Below.alloc ?_ ?_ _) | (with_reducible refine Below.drew ?_) | (with_reducible refine Below.setCell ?_ ?_ _) | (with_reducible refine Below.stepB (by assumption) ?_ ?_) | go_size)⟩
    · obtain rfl : k = n := by omega
      have HDS : Hid (distB S k = true) := hall
      have HBR := Lib.hid hbr
      clear hS hall hbr
      go_wp2
      go_loopw [45] (fun v wr => ∃ i : Nat, i ≤ m ∧ v = .int .i64 i ∧ Hid (allUpto (triOk S k T) i = true) ∧ Below w.heap.size w wr) (fun v _ => m - (intOf v).toNat)
      case atStart => exact ⟨0, Nat.zero_le _, rfl, rfl, HBR.out⟩
      case round =>
        clear HBR hzr
        rename World => wz
        obtain ⟨wr, rfl⟩ : ∃ wr : World, wr = wz := ⟨_, rfl⟩
        obtain ⟨i, hi, rfl, hok, hbr⟩ := hrel
        have hzr := hbr.size
        by_cases hlti : i < m
        · obtain ⟨b2, off2, rfl, hbl2, hbl3, t0, t1, t2⟩ := HS2.out.at hbr hlti
          have HW1 : Hid (Below w.heap.size w (wr.alloc (.cells #[.int .i64 (T i 0), .int .i64 (T i 1), .int .i64 (T i 2)] 41))) := hbr.alloc (by omega) _
          have HT := Lib.hid (fun (x : Later (wr.alloc (.cells #[.int .i64 (T i 0), .int .i64 (T i 1), .int .i64 (T i 2)] 41))) => isTriangle_any A k c S (T i) x.w (HS.out.below (Later.old x (B := w.heap.size) HW1.out (by simp; omega))) hn HSP.out)
          have HBR := Lib.hid hbr
          rcases Bool.eq_false_or_eq_true (trB S k (T i)) with htr | htr
          rotate_left
          · rw [htr] at HT
            have HN : Hid (false = meshB S k T m) := by show _ = _; rw [HV.out, allUpto_not (k := i) (by rw [triOk, htr]; rfl) m hlti, Bool.and_false]
            clear htr
            go_wp2_with fail
            refine wp_region_later (by kernel_rfl) (by kernel_rfl) (fun hlx => ?_)
            repeat (go_big_quiet_step ((go_at_call 82; with_reducible exact Later.call (HT.out _))))
            refine wpQuiet_nil ?_
            clear hlx
            intro w3 hbw3
            obtain ⟨hzw3, hcw3, hfw3⟩ := bfacts hbw3; (try simp at hzw3 hcw3 hfw3); (try (have : w.heap.size < w3.heap.size := by omega)); (try (have : w.heap.size + 1 < w3.heap.size := by omega)); (try (have : w.heap.size + 1 + 1 < w3.heap.size := by omega)); (try (have : w.heap.size + 1 + 1 + 1 < w3.heap.size := by omega))
            go_wp2
            go_ret
            exact ⟨ret_bool HN.out, by repeat' (first | (with_reducible exact Below.refl _ _) | (with_reducible assumption) | (with_reducible refine Below.alloc ?_ ?_ _) | (with_reducible refine Below.drew ?_) | (with_reducible refine Below.setCell ?_ ?_ _) | (with_reducible refine Below.stepB (by assumption) ?_ ?_) | go_size)⟩
          rw [htr] at HT
          have HTR := Lib.hid htr
          clear htr
          rcases Nat.eq_zero_or_pos i with hi0 | hpos
          · obtain rfl : i = 0 := hi0
            simp only [Nat.zero_mul, Nat.add_zero] at t0 t1 t2
            go_wp2_with fail
            refine wp_region_later (by kernel_rfl) (by kernel_rfl) (fun hlx => ?_)
            repeat (go_big_quiet_step ((go_at_call 82; with_reducible exact Later.call (HT.out _))))
            refine wpQuiet_nil ?_
            clear hlx
            intro w3 hbw3
            obtain ⟨hzw3, hcw3, hfw3⟩ := bfacts hbw3; (try simp at hzw3 hcw3 hfw3); (try (have : w.heap.size < w3.heap.size := by omega)); (try (have : w.heap.size + 1 < w3.heap.size := by omega)); (try (have : w.heap.size + 1 + 1 < w3.heap.size := by omega)); (try (have : w.heap.size + 1 + 1 + 1 < w3.heap.size := by omega))
            have HW3 : Hid (Below w.heap.size w w3) := Lib.hid (by repeat' (first | (with_reducible exact Below.refl _ _) | (with_reducible assumption) | (with_reducible refine Below.alloc ?_ ?_ _) | (with_reducible refine Below.drew ?_) | (with_reducible refine Below.setCell ?_ ?_ _) | (with_reducible refine Below.stepB (by assumption) ?_ ?_) | go_size))
            have hB8 : Blk w3 wr.heap.size 41 #[.int .i64 (T 0 0), .int .i64 (T 0 1), .int .i64 (T 0 2)] := (blk_newP wr _ _ rfl).below hbw3 (by simp)
            have HB8 := Lib.hid hB8
            have HCO := Lib.hid (fun W (hb : Below w.heap.size w W) => cornersOf_any A k c S (T 0) W (HS.out.below hb) hn (trB_idx HTR.out))
            have hbd := idxB_at (trB_idx HTR.out)
            have hs0 : spB (cn S (T 0) 0) = true := HSP.out _ (by have := hbd 0 (by omega); omega)
            have hs1 : spB (cn S (T 0) 1) = true := HSP.out _ (by have := hbd 1 (by omega); omega)
            have hs2 : spB (cn S (T 0) 2) = true := HSP.out _ (by have := hbd 2 (by omega); omega)
            have HSB := Lib.hid (And.intro hs0 (And.intro hs1 hs2))
            clear hB8 hbd hs0 hs1 hs2
            go_wp2_with (go_at_call 84; refine (HCO.out _ (by repeat' (first | (with_reducible exact Below.refl _ _) | (with_reducible assumption) | (with_reducible refine Below.alloc ?_ ?_ _) | (with_reducible refine Below.drew ?_) | (with_reducible refine Below.setCell ?_ ?_ _) | (with_reducible refine Below.stepB (by assumption) ?_ ?_) | go_size))).mono ?_; rintro e w5 ⟨rfl, hbw5⟩; obtain ⟨hzw5, hcw5, hfw5⟩ := bfacts hbw5; (try simp at hzw5 hcw5 hfw5); (try (have : w.heap.size < w5.heap.size := by omega)); (try (have : w.heap.size + 1 < w5.heap.size := by omega)); (try (have : w.heap.size + 1 + 1 < w5.heap.size := by omega)); (try (have : w.heap.size + 1 + 1 + 1 < w5.heap.size := by omega)))
            have HW5 : Hid (Below w.heap.size w w5) := Lib.hid (by repeat' (first | (with_reducible exact Below.refl _ _) | (with_reducible assumption) | (with_reducible refine Below.alloc ?_ ?_ _) | (with_reducible refine Below.drew ?_) | (with_reducible refine Below.setCell ?_ ?_ _) | (with_reducible refine Below.stepB (by assumption) ?_ ?_) | go_size))
            have hl8 : wr.heap.size < w3.heap.size := HB8.out.lt
            have HB85 := Lib.hid (HB8.out.below hbw5 hl8)
            go_loopw [73] (fun v wq => ∃ p : Nat, p ≤ k ∧ v = .int .i64 p ∧ Hid (allUpto (emptyP S (T 0)) p = true) ∧ Blk wq wr.heap.size 41 #[.int .i64 (T 0 0), .int .i64 (T 0 1), .int .i64 (T 0 2)] ∧ Blk wq w5.heap.size 95 #[.int .i64 (cn S (T 0) 0).x, .int .i64 (cn S (T 0) 0).y, .int .i64 (cn S (T 0) 1).x, .int .i64 (cn S (T 0) 1).y, .int .i64 (cn S (T 0) 2).x, .int .i64 (cn S (T 0) 2).y] ∧ Below w.heap.size w wq) (fun v _ => k - (intOf v).toNat)
            case atStart => exact ⟨0, Nat.zero_le _, rfl, rfl, HB85.out.alloc _, Blk.new _ _ _, HW5.out.alloc (by omega) _⟩
            case round =>
              rename World => wz
              obtain ⟨wq, rfl⟩ : ∃ wq : World, wq = wz := ⟨_, rfl⟩
              obtain ⟨p, hp, rfl, hem, h8, h9, hbq⟩ := hrel
              have hzq := hbq.size
              have hl8q := h8.lt
              have hl9q := h9.lt
              have H8 := Lib.hid h8
              have H9 := Lib.hid h9
              clear hcw3 hfw3 hcw5 hfw5
              by_cases hltp : p < k
              · obtain ⟨b, off, hAq, hbl, hblq, x0, x1, hx⟩ := HS.out.at hbq hltp
                subst hAq
                have r0 : wq.cell? ⟨w5.heap.size, 0, none⟩ = some (.int .i64 (cn S (T 0) 0).x) := h9.cell 0
                have r1 : wq.cell? ⟨w5.heap.size, 1, none⟩ = some (.int .i64 (cn S (T 0) 0).y) := h9.cell 1
                have r2 : wq.cell? ⟨w5.heap.size, 2, none⟩ = some (.int .i64 (cn S (T 0) 1).x) := h9.cell 2
                have r3 : wq.cell? ⟨w5.heap.size, 3, none⟩ = some (.int .i64 (cn S (T 0) 1).y) := h9.cell 3
                have r4 : wq.cell? ⟨w5.heap.size, 4, none⟩ = some (.int .i64 (cn S (T 0) 2).x) := h9.cell 4
                have r5 : wq.cell? ⟨w5.heap.size, 5, none⟩ = some (.int .i64 (cn S (T 0) 2).y) := h9.cell 5
                have HCI := Lib.hid (fun W (hb : Below wq.heap.size wq W) => containsI_any (some ⟨wr.heap.size, 0, none⟩) 3 3 (T 0) p W (slI_blk3 (H8.out.below hb H8.out.lt)) (by omega))
                rw [isCn_has] at HCI
                have HII := Lib.hid (fun W => isIn_any (cn S (T 0) 0) (cn S (T 0) 1) (cn S (T 0) 2) (S p) W HSB.out.1 HSB.out.2.1 HSB.out.2.2 (HSP.out p hltp))
                have HE : Hid (emptyP S (T 0) p = (isCn (T 0) p || !insT (cn S (T 0) 0) (cn S (T 0) 1) (cn S (T 0) 2) (S p))) := rfl
                generalize isCn (T 0) p = ci at HCI HE
                generalize insT (cn S (T 0) 0) (cn S (T 0) 1) (cn S (T 0) 2) (S p) = ii at HII HE
                have HBQ := Lib.hid hbq
                clear hx h8 h9 hbq
                cases ci
                · cases ii
                  · have HN : Hid (allUpto (emptyP S (T 0)) (p + 1) = true) := allUpto_hit hem (by rw [HE.out]; rfl)
                    clear hem
                    go_wp2_with (first | (go_at_call 85; refine (HCI.out _ (by repeat' (first | (with_reducible exact Below.refl _ _) | (with_reducible assumption) | (with_reducible refine Below.alloc ?_ ?_ _) | (with_reducible refine Below.drew ?_) | (with_reducible refine Below.setCell ?_ ?_ _) | (with_reducible refine Below.stepB (by assumption) ?_ ?_) | go_size))).mono ?_; rintro e w7 ⟨rfl, hbw7⟩; obtain ⟨hzw7, hcw7, hfw7⟩ := bfacts hbw7; (try simp at hzw7 hcw7 hfw7); (try (have : w.heap.size < w7.heap.size := by omega)); (try (have : w.heap.size + 1 < w7.heap.size := by omega)); (try (have : w.heap.size + 1 + 1 < w7.heap.size := by omega)); (try (have : w.heap.size + 1 + 1 + 1 < w7.heap.size := by omega))) | (go_at_call 86; refine (HII.out _).mono ?_; rintro e w8 ⟨rfl, hbw8⟩; obtain ⟨hzw8, hcw8, hfw8⟩ := bfacts hbw8; (try simp at hzw8 hcw8 hfw8); (try (have : w.heap.size < w8.heap.size := by omega)); (try (have : w.heap.size + 1 < w8.heap.size := by omega)); (try (have : w.heap.size + 1 + 1 < w8.heap.size := by omega)); (try (have : w.heap.size + 1 + 1 + 1 < w8.heap.size := by omega))))
                    have hq8 : Below wq.heap.size wq w8 := by repeat' (first | (with_reducible exact Below.refl _ _) | (with_reducible assumption) | (with_reducible refine Below.alloc ?_ ?_ _) | (with_reducible refine Below.drew ?_) | (with_reducible refine Below.setCell ?_ ?_ _) | (with_reducible refine Below.stepB (by assumption) ?_ ?_) | go_size)
                    go_roundw
                    case rel => exact ⟨p + 1, by omega, by go_num, HN, H8.out.below hq8 hl8q, H9.out.below hq8 hl9q, HBQ.out.trans (hq8.mono hzq)⟩
                    case measure => simp [intOf]; omega
                  · have HN : Hid (false = meshB S k T m) := by
                      show _ = _
                      rw [HV.out, allUpto_not (k := 0) (by rw [triOk, emptyB, allUpto_not (k := p) (by rw [HE.out]; rfl) k hltp]; simp) m hlti, Bool.and_false]
                    clear hem
                    go_wp2_with (first | (go_at_call 85; refine (HCI.out _ (by repeat' (first | (with_reducible exact Below.refl _ _) | (with_reducible assumption) | (with_reducible refine Below.alloc ?_ ?_ _) | (with_reducible refine Below.drew ?_) | (with_reducible refine Below.setCell ?_ ?_ _) | (with_reducible refine Below.stepB (by assumption) ?_ ?_) | go_size))).mono ?_; rintro e w7 ⟨rfl, hbw7⟩; obtain ⟨hzw7, hcw7, hfw7⟩ := bfacts hbw7; (try simp at hzw7 hcw7 hfw7); (try (have : w.heap.size < w7.heap.size := by omega)); (try (have : w.heap.size + 1 < w7.heap.size := by omega)); (try (have : w.heap.size + 1 + 1 < w7.heap.size := by omega)); (try (have : w.heap.size + 1 + 1 + 1 < w7.heap.size := by omega))) | (go_at_call 86; refine (HII.out _).mono ?_; rintro e w8 ⟨rfl, hbw8⟩; obtain ⟨hzw8, hcw8, hfw8⟩ := bfacts hbw8; (try simp at hzw8 hcw8 hfw8); (try (have : w.heap.size < w8.heap.size := by omega)); (try (have : w.heap.size + 1 < w8.heap.size := by omega)); (try (have : w.heap.size + 1 + 1 < w8.heap.size := by omega)); (try (have : w.heap.size + 1 + 1 + 1 < w8.heap.size := by omega))))
                    have hq8 : Below wq.heap.size wq w8 := by repeat' (first | (with_reducible exact Below.refl _ _) | (with_reducible assumption) | (with_reducible refine Below.alloc ?_ ?_ _) | (with_reducible refine Below.drew ?_) | (with_reducible refine Below.setCell ?_ ?_ _) | (with_reducible refine Below.stepB (by assumption) ?_ ?_) | go_size)
                    go_ret
                    exact ⟨ret_bool HN.out, HBQ.out.trans (hq8.mono hzq)⟩
                · have HN : Hid (allUpto (emptyP S (T 0)) (p + 1) = true) := allUpto_hit hem (by rw [HE.out]; rfl)
                  clear hem
                  go_wp2_with (go_at_call 85; refine (HCI.out _ (by repeat' (first | (with_reducible exact Below.refl _ _) | (with_reducible assumption) | (with_reducible refine Below.alloc ?_ ?_ _) | (with_reducible refine Below.drew ?_) | (with_reducible refine Below.setCell ?_ ?_ _) | (with_reducible refine Below.stepB (by assumption) ?_ ?_) | go_size))).mono ?_; rintro e w7 ⟨rfl, hbw7⟩; obtain ⟨hzw7, hcw7, hfw7⟩ := bfacts hbw7; (try simp at hzw7 hcw7 hfw7); (try (have : w.heap.size < w7.heap.size := by omega)); (try (have : w.heap.size + 1 < w7.heap.size := by omega)); (try (have : w.heap.size + 1 + 1 < w7.heap.size := by omega)); (try (have : w.heap.size + 1 + 1 + 1 < w7.heap.size := by omega)))
                  have hq8 : Below wq.heap.size wq w7 := by repeat' (first | (with_reducible exact Below.refl _ _) | (with_reducible assumption) | (with_reducible refine Below.alloc ?_ ?_ _) | (with_reducible refine Below.drew ?_) | (with_reducible refine Below.setCell ?_ ?_ _) | (with_reducible refine Below.stepB (by assumption) ?_ ?_) | go_size)
                  go_roundw
                  case rel => exact ⟨p + 1, by omega, by go_num, HN, H8.out.below hq8 hl8q, H9.out.below hq8 hl9q, HBQ.out.trans (hq8.mono hzq)⟩
                  case measure => simp [intOf]; omega
              · obtain rfl : p = k := by omega
                have HEM : Hid (emptyB S p (T 0) = true) := hem
                have HBQ := Lib.hid hbq
                have hic : 0 ≤ c2 := by omega
                clear hem h8 h9 hbq
                go_wp2
                go_loopw [92] (fun v wd => ∃ j : Nat, j ≤ 0 ∧ v = .int .i64 j ∧ Hid (allUpto (apartP S T (0)) j = true) ∧ Blk wd w5.heap.size 95 #[.int .i64 (cn S (T 0) 0).x, .int .i64 (cn S (T 0) 0).y, .int .i64 (cn S (T 0) 1).x, .int .i64 (cn S (T 0) 1).y, .int .i64 (cn S (T 0) 2).x, .int .i64 (cn S (T 0) 2).y] ∧ Below w.heap.size w wd) (fun v _ => 0 - (intOf v).toNat)
                case atStart => exact ⟨0, Nat.zero_le _, rfl, rfl, H9.out, HBQ.out⟩
                case round =>
                  rename World => wz
                  obtain ⟨wd, rfl⟩ : ∃ wd : World, wd = wz := ⟨_, rfl⟩
                  obtain ⟨j, hj, rfl, hap, h9, hbd⟩ := hrel
                  have hzd := hbd.size
                  have hl9d := h9.lt
                  have H9d := Lib.hid h9
                  by_cases hltj : j < 0
                  · (try exact absurd hltj (by omega))
                    all_goals
                      obtain ⟨b', off', hA', _, hbl4, u0, u1, u2⟩ := HS2.out.at (k := j) hbd (by omega)
                      obtain ⟨rfl, rfl⟩ : b2 = b' ∧ off2 = off' := by simpa using hA'
                      have r0 : wd.cell? ⟨w5.heap.size, 0, none⟩ = some (.int .i64 (cn S (T 0) 0).x) := h9.cell 0
                      have r1 : wd.cell? ⟨w5.heap.size, 1, none⟩ = some (.int .i64 (cn S (T 0) 0).y) := h9.cell 1
                      have r2 : wd.cell? ⟨w5.heap.size, 2, none⟩ = some (.int .i64 (cn S (T 0) 1).x) := h9.cell 2
                      have r3 : wd.cell? ⟨w5.heap.size, 3, none⟩ = some (.int .i64 (cn S (T 0) 1).y) := h9.cell 3
                      have r4 : wd.cell? ⟨w5.heap.size, 4, none⟩ = some (.int .i64 (cn S (T 0) 2).x) := h9.cell 4
                      have r5 : wd.cell? ⟨w5.heap.size, 5, none⟩ = some (.int .i64 (cn S (T 0) 2).y) := h9.cell 5
                      have htj : trB S p (T j) = true := by
                        have := allUpto_lt hok j hltj
                        simp only [triOk, Bool.and_eq_true] at this
                        exact this.1
                      have HBD := Lib.hid hbd
                      have HC2 := Lib.hid (fun W (hb : Below wd.heap.size wd W) => cornersOf_any A p c S (T j) W (HS.out.below (HBD.out.trans (hb.mono hzd))) hn (trB_idx htj))
                      have hid := idxB_at (trB_idx htj)
                      have y0 : spB (cn S (T j) 0) = true := HSP.out _ (by have := hid 0 (by omega); omega)
                      have y1 : spB (cn S (T j) 1) = true := HSP.out _ (by have := hid 1 (by omega); omega)
                      have y2 : spB (cn S (T j) 2) = true := HSP.out _ (by have := hid 2 (by omega); omega)
                      have HP1 := Lib.hid (fun W => parts_any (cn S (T 0) 0) (cn S (T 0) 1) (cn S (T 0) 2) (cn S (T j) 0) (cn S (T j) 1) (cn S (T j) 2) W HSB.out.1 HSB.out.2.1 HSB.out.2.2 y0 y1 y2)
                      have HP2 := Lib.hid (fun W => parts_any (cn S (T j) 0) (cn S (T j) 1) (cn S (T j) 2) (cn S (T 0) 0) (cn S (T 0) 1) (cn S (T 0) 2) W y0 y1 y2 HSB.out.1 HSB.out.2.1 HSB.out.2.2)
                      have HE : Hid (apartP S T (0) j = (partsT (cn S (T 0) 0) (cn S (T 0) 1) (cn S (T 0) 2) (cn S (T j) 0) (cn S (T j) 1) (cn S (T j) 2) || partsT (cn S (T j) 0) (cn S (T j) 1) (cn S (T j) 2) (cn S (T 0) 0) (cn S (T 0) 1) (cn S (T 0) 2))) := rfl
                      generalize partsT (cn S (T 0) 0) (cn S (T 0) 1) (cn S (T 0) 2) (cn S (T j) 0) (cn S (T j) 1) (cn S (T j) 2) = c1 at HP1 HE
                      generalize partsT (cn S (T j) 0) (cn S (T j) 1) (cn S (T j) 2) (cn S (T 0) 0) (cn S (T 0) 1) (cn S (T 0) 2) = cc2 at HP2 HE
                      clear hA' h9 htj hid y0 y1 y2 hbd
                      cases c1
                      · cases cc2
                        · have HN : Hid (false = meshB S p T m) := by
                            show _ = _
                            rw [HV.out, allUpto_not (k := 0) (by rw [triOk, apartB, allUpto_not (k := j) (by rw [HE.out]; rfl) _ hltj]; simp) m hlti, Bool.and_false]
                          clear hap
                          go_wp2_with (first | (go_at_call 84; refine (HC2.out _ (by repeat' (first | (with_reducible exact Below.refl _ _) | (with_reducible assumption) | (with_reducible refine Below.alloc ?_ ?_ _) | (with_reducible refine Below.drew ?_) | (with_reducible refine Below.setCell ?_ ?_ _) | (with_reducible refine Below.stepB (by assumption) ?_ ?_) | go_size))).mono ?_; rintro e w10 ⟨rfl, hbw10⟩; obtain ⟨hzw10, hcw10, hfw10⟩ := bfacts hbw10; (try simp at hzw10 hcw10 hfw10); (try (have : w.heap.size < w10.heap.size := by omega)); (try (have : w.heap.size + 1 < w10.heap.size := by omega)); (try (have : w.heap.size + 1 + 1 < w10.heap.size := by omega)); (try (have : w.heap.size + 1 + 1 + 1 < w10.heap.size := by omega)); have hl10 : w5.heap.size < w10.heap.size := by omega) | (go_at_call 87; (with_reducible refine (HP1.out _).mono ?_); rintro e w11 ⟨rfl, hbw11⟩; obtain ⟨hzw11, hcw11, hfw11⟩ := bfacts hbw11; (try simp at hzw11 hcw11 hfw11); (try (have : w.heap.size < w11.heap.size := by omega)); (try (have : w.heap.size + 1 < w11.heap.size := by omega)); (try (have : w.heap.size + 1 + 1 < w11.heap.size := by omega)); (try (have : w.heap.size + 1 + 1 + 1 < w11.heap.size := by omega))) | (go_at_call 87; (with_reducible refine (HP2.out _).mono ?_); rintro e w12 ⟨rfl, hbw12⟩; obtain ⟨hzw12, hcw12, hfw12⟩ := bfacts hbw12; (try simp at hzw12 hcw12 hfw12); (try (have : w.heap.size < w12.heap.size := by omega)); (try (have : w.heap.size + 1 < w12.heap.size := by omega)); (try (have : w.heap.size + 1 + 1 < w12.heap.size := by omega)); (try (have : w.heap.size + 1 + 1 + 1 < w12.heap.size := by omega))))
                          have hq8 : Below wd.heap.size wd w12 := by repeat' (first | (with_reducible exact Below.refl _ _) | (with_reducible assumption) | (with_reducible refine Below.alloc ?_ ?_ _) | (with_reducible refine Below.drew ?_) | (with_reducible refine Below.setCell ?_ ?_ _) | (with_reducible refine Below.stepB (by assumption) ?_ ?_) | go_size)
                          go_ret
                          exact ⟨ret_bool HN.out, HBD.out.trans (hq8.mono hzd)⟩
                        · have HN : Hid (allUpto (apartP S T (0)) (j + 1) = true) := allUpto_hit hap (by rw [HE.out]; rfl)
                          clear hap
                          go_wp2_with (first | (go_at_call 84; refine (HC2.out _ (by repeat' (first | (with_reducible exact Below.refl _ _) | (with_reducible assumption) | (with_reducible refine Below.alloc ?_ ?_ _) | (with_reducible refine Below.drew ?_) | (with_reducible refine Below.setCell ?_ ?_ _) | (with_reducible refine Below.stepB (by assumption) ?_ ?_) | go_size))).mono ?_; rintro e w10 ⟨rfl, hbw10⟩; obtain ⟨hzw10, hcw10, hfw10⟩ := bfacts hbw10; (try simp at hzw10 hcw10 hfw10); (try (have : w.heap.size < w10.heap.size := by omega)); (try (have : w.heap.size + 1 < w10.heap.size := by omega)); (try (have : w.heap.size + 1 + 1 < w10.heap.size := by omega)); (try (have : w.heap.size + 1 + 1 + 1 < w10.heap.size := by omega)); have hl10 : w5.heap.size < w10.heap.size := by omega) | (go_at_call 87; (with_reducible refine (HP1.out _).mono ?_); rintro e w11 ⟨rfl, hbw11⟩; obtain ⟨hzw11, hcw11, hfw11⟩ := bfacts hbw11; (try simp at hzw11 hcw11 hfw11); (try (have : w.heap.size < w11.heap.size := by omega)); (try (have : w.heap.size + 1 < w11.heap.size := by omega)); (try (have : w.heap.size + 1 + 1 < w11.heap.size := by omega)); (try (have : w.heap.size + 1 + 1 + 1 < w11.heap.size := by omega))) | (go_at_call 87; (with_reducible refine (HP2.out _).mono ?_); rintro e w12 ⟨rfl, hbw12⟩; obtain ⟨hzw12, hcw12, hfw12⟩ := bfacts hbw12; (try simp at hzw12 hcw12 hfw12); (try (have : w.heap.size < w12.heap.size := by omega)); (try (have : w.heap.size + 1 < w12.heap.size := by omega)); (try (have : w.heap.size + 1 + 1 < w12.heap.size := by omega)); (try (have : w.heap.size + 1 + 1 + 1 < w12.heap.size := by omega))))
                          have hq8 : Below wd.heap.size wd w12 := by repeat' (first | (with_reducible exact Below.refl _ _) | (with_reducible assumption) | (with_reducible refine Below.alloc ?_ ?_ _) | (with_reducible refine Below.drew ?_) | (with_reducible refine Below.setCell ?_ ?_ _) | (with_reducible refine Below.stepB (by assumption) ?_ ?_) | go_size)
                          go_roundw
                          case rel => exact ⟨j + 1, by omega, by go_num, HN, H9d.out.below hq8 hl9d, HBD.out.trans (hq8.mono hzd)⟩
                          case measure => simp [intOf]; omega
                      · have HN : Hid (allUpto (apartP S T (0)) (j + 1) = true) := allUpto_hit hap (by rw [HE.out]; rfl)
                        clear hap
                        go_wp2_with (first | (go_at_call 84; refine (HC2.out _ (by repeat' (first | (with_reducible exact Below.refl _ _) | (with_reducible assumption) | (with_reducible refine Below.alloc ?_ ?_ _) | (with_reducible refine Below.drew ?_) | (with_reducible refine Below.setCell ?_ ?_ _) | (with_reducible refine Below.stepB (by assumption) ?_ ?_) | go_size))).mono ?_; rintro e w10 ⟨rfl, hbw10⟩; obtain ⟨hzw10, hcw10, hfw10⟩ := bfacts hbw10; (try simp at hzw10 hcw10 hfw10); (try (have : w.heap.size < w10.heap.size := by omega)); (try (have : w.heap.size + 1 < w10.heap.size := by omega)); (try (have : w.heap.size + 1 + 1 < w10.heap.size := by omega)); (try (have : w.heap.size + 1 + 1 + 1 < w10.heap.size := by omega)); have hl10 : w5.heap.size < w10.heap.size := by omega) | (go_at_call 87; (with_reducible refine (HP1.out _).mono ?_); rintro e w11 ⟨rfl, hbw11⟩; obtain ⟨hzw11, hcw11, hfw11⟩ := bfacts hbw11; (try simp at hzw11 hcw11 hfw11); (try (have : w.heap.size < w11.heap.size := by omega)); (try (have : w.heap.size + 1 < w11.heap.size := by omega)); (try (have : w.heap.size + 1 + 1 < w11.heap.size := by omega)); (try (have : w.heap.size + 1 + 1 + 1 < w11.heap.size := by omega))))
                        have hq8 : Below wd.heap.size wd w11 := by repeat' (first | (with_reducible exact Below.refl _ _) | (with_reducible assumption) | (with_reducible refine Below.alloc ?_ ?_ _) | (with_reducible refine Below.drew ?_) | (with_reducible refine Below.setCell ?_ ?_ _) | (with_reducible refine Below.stepB (by assumption) ?_ ?_) | go_size)
                        go_roundw
                        case rel => exact ⟨j + 1, by omega, by go_num, HN, H9d.out.below hq8 hl9d, HBD.out.trans (hq8.mono hzd)⟩
                        case measure => simp [intOf]; omega
                  · obtain rfl : j = 0 := by omega
                    have HN : Hid (allUpto (triOk S p T) (0 + 1) = true) := allUpto_hit hok (by rw [triOk, HTR.out, show (decide (0 = 0) || lessT (T (0 - 1)) (T 0)) = true from rfl, HEM.out, apartB, hap]; rfl)
                    have HBD := Lib.hid hbd
                    clear hap h9 hbd
                    go_wp2
                    go_roundw
                    case rel => exact ⟨0 + 1, by omega, by go_num, HN, HBD.out⟩
                    case measure => simp [intOf]; omega
          · obtain ⟨q, rfl⟩ : ∃ q, i = q + 1 := ⟨i - 1, by omega⟩
            have HCM := Lib.hid (fun (x : Later (wr.alloc (.cells #[.int .i64 (T (q + 1) 0), .int .i64 (T (q + 1) 1), .int .i64 (T (q + 1) 2)] 41))) => compare3_any (some ⟨b2, off2 + q * 3, none⟩) (some ⟨wr.heap.size, 0, none⟩) 3 3 (T q) (T (q + 1)) x.w (slI_row3 (HS2.out.below (Later.old x (B := w.heap.size) HW1.out (by simp; omega))) (by omega)) (slI_blk3 ((blk_newP wr _ _ rfl).below x.below (by simp))))
            have HLS : Hid (decide (0 ≤ cmp3 (T q) (T (q + 1))) = !lessT (T q) (T (q + 1))) := cmp3_less _ _
            generalize cmp3 (T q) (T (q + 1)) = cv at HCM HLS
            have w1' : IntKind.i64.wrap (((q + 1 : Nat) : Int) - 1) = (q : Int) := by rw [IntKind.wrap_i64]; omega
            rcases Bool.eq_false_or_eq_true (lessT (T q) (T (q + 1))) with hls | hls
            · have hcv : decide (0 ≤ cv) = false := by rw [HLS.out, hls]; rfl
              have HLL := Lib.hid hls
              clear hls
              go_wp2_with fail
              refine wp_region_later (by kernel_rfl) (by kernel_rfl) (fun hlx => ?_)
              repeat (go_big_quiet_step ((first | (go_at_call 82; with_reducible exact Later.call (HT.out _)) | (go_at_call 83; with_reducible exact Later.call (HCM.out _)))))
              refine wpQuiet_nil ?_
              clear hlx
              intro w3 hbw3
              obtain ⟨hzw3, hcw3, hfw3⟩ := bfacts hbw3; (try simp at hzw3 hcw3 hfw3); (try (have : w.heap.size < w3.heap.size := by omega)); (try (have : w.heap.size + 1 < w3.heap.size := by omega)); (try (have : w.heap.size + 1 + 1 < w3.heap.size := by omega)); (try (have : w.heap.size + 1 + 1 + 1 < w3.heap.size := by omega))
              clear w1'
              have HW3 : Hid (Below w.heap.size w w3) := Lib.hid (by repeat' (first | (with_reducible exact Below.refl _ _) | (with_reducible assumption) | (with_reducible refine Below.alloc ?_ ?_ _) | (with_reducible refine Below.drew ?_) | (with_reducible refine Below.setCell ?_ ?_ _) | (with_reducible refine Below.stepB (by assumption) ?_ ?_) | go_size))
              have hB8 : Blk w3 wr.heap.size 41 #[.int .i64 (T (q + 1) 0), .int .i64 (T (q + 1) 1), .int .i64 (T (q + 1) 2)] := (blk_newP wr _ _ rfl).below hbw3 (by simp)
              have HB8 := Lib.hid hB8
              have HCO := Lib.hid (fun W (hb : Below w.heap.size w W) => cornersOf_any A k c S (T (q + 1)) W (HS.out.below hb) hn (trB_idx HTR.out))
              have hbd := idxB_at (trB_idx HTR.out)
              have hs0 : spB (cn S (T (q + 1)) 0) = true := HSP.out _ (by have := hbd 0 (by omega); omega)
              have hs1 : spB (cn S (T (q + 1)) 1) = true := HSP.out _ (by have := hbd 1 (by omega); omega)
              have hs2 : spB (cn S (T (q + 1)) 2) = true := HSP.out _ (by have := hbd 2 (by omega); omega)
              have HSB := Lib.hid (And.intro hs0 (And.intro hs1 hs2))
              clear hB8 hbd hs0 hs1 hs2
              go_wp2_with (go_at_call 84; refine (HCO.out _ (by repeat' (first | (with_reducible exact Below.refl _ _) | (with_reducible assumption) | (with_reducible refine Below.alloc ?_ ?_ _) | (with_reducible refine Below.drew ?_) | (with_reducible refine Below.setCell ?_ ?_ _) | (with_reducible refine Below.stepB (by assumption) ?_ ?_) | go_size))).mono ?_; rintro e w5 ⟨rfl, hbw5⟩; obtain ⟨hzw5, hcw5, hfw5⟩ := bfacts hbw5; (try simp at hzw5 hcw5 hfw5); (try (have : w.heap.size < w5.heap.size := by omega)); (try (have : w.heap.size + 1 < w5.heap.size := by omega)); (try (have : w.heap.size + 1 + 1 < w5.heap.size := by omega)); (try (have : w.heap.size + 1 + 1 + 1 < w5.heap.size := by omega)))
              have HW5 : Hid (Below w.heap.size w w5) := Lib.hid (by repeat' (first | (with_reducible exact Below.refl _ _) | (with_reducible assumption) | (with_reducible refine Below.alloc ?_ ?_ _) | (with_reducible refine Below.drew ?_) | (with_reducible refine Below.setCell ?_ ?_ _) | (with_reducible refine Below.stepB (by assumption) ?_ ?_) | go_size))
              have hl8 : wr.heap.size < w3.heap.size := HB8.out.lt
              have HB85 := Lib.hid (HB8.out.below hbw5 hl8)
              go_loopw [73] (fun v wq => ∃ p : Nat, p ≤ k ∧ v = .int .i64 p ∧ Hid (allUpto (emptyP S (T (q + 1))) p = true) ∧ Blk wq wr.heap.size 41 #[.int .i64 (T (q + 1) 0), .int .i64 (T (q + 1) 1), .int .i64 (T (q + 1) 2)] ∧ Blk wq w5.heap.size 95 #[.int .i64 (cn S (T (q + 1)) 0).x, .int .i64 (cn S (T (q + 1)) 0).y, .int .i64 (cn S (T (q + 1)) 1).x, .int .i64 (cn S (T (q + 1)) 1).y, .int .i64 (cn S (T (q + 1)) 2).x, .int .i64 (cn S (T (q + 1)) 2).y] ∧ Below w.heap.size w wq) (fun v _ => k - (intOf v).toNat)
              case atStart => exact ⟨0, Nat.zero_le _, rfl, rfl, HB85.out.alloc _, Blk.new _ _ _, HW5.out.alloc (by omega) _⟩
              case round =>
                rename World => wz
                obtain ⟨wq, rfl⟩ : ∃ wq : World, wq = wz := ⟨_, rfl⟩
                obtain ⟨p, hp, rfl, hem, h8, h9, hbq⟩ := hrel
                have hzq := hbq.size
                have hl8q := h8.lt
                have hl9q := h9.lt
                have H8 := Lib.hid h8
                have H9 := Lib.hid h9
                clear hcw3 hfw3 hcw5 hfw5
                by_cases hltp : p < k
                · obtain ⟨b, off, hAq, hbl, hblq, x0, x1, hx⟩ := HS.out.at hbq hltp
                  subst hAq
                  have r0 : wq.cell? ⟨w5.heap.size, 0, none⟩ = some (.int .i64 (cn S (T (q + 1)) 0).x) := h9.cell 0
                  have r1 : wq.cell? ⟨w5.heap.size, 1, none⟩ = some (.int .i64 (cn S (T (q + 1)) 0).y) := h9.cell 1
                  have r2 : wq.cell? ⟨w5.heap.size, 2, none⟩ = some (.int .i64 (cn S (T (q + 1)) 1).x) := h9.cell 2
                  have r3 : wq.cell? ⟨w5.heap.size, 3, none⟩ = some (.int .i64 (cn S (T (q + 1)) 1).y) := h9.cell 3
                  have r4 : wq.cell? ⟨w5.heap.size, 4, none⟩ = some (.int .i64 (cn S (T (q + 1)) 2).x) := h9.cell 4
                  have r5 : wq.cell? ⟨w5.heap.size, 5, none⟩ = some (.int .i64 (cn S (T (q + 1)) 2).y) := h9.cell 5
                  have HCI := Lib.hid (fun W (hb : Below wq.heap.size wq W) => containsI_any (some ⟨wr.heap.size, 0, none⟩) 3 3 (T (q + 1)) p W (slI_blk3 (H8.out.below hb H8.out.lt)) (by omega))
                  rw [isCn_has] at HCI
                  have HII := Lib.hid (fun W => isIn_any (cn S (T (q + 1)) 0) (cn S (T (q + 1)) 1) (cn S (T (q + 1)) 2) (S p) W HSB.out.1 HSB.out.2.1 HSB.out.2.2 (HSP.out p hltp))
                  have HE : Hid (emptyP S (T (q + 1)) p = (isCn (T (q + 1)) p || !insT (cn S (T (q + 1)) 0) (cn S (T (q + 1)) 1) (cn S (T (q + 1)) 2) (S p))) := rfl
                  generalize isCn (T (q + 1)) p = ci at HCI HE
                  generalize insT (cn S (T (q + 1)) 0) (cn S (T (q + 1)) 1) (cn S (T (q + 1)) 2) (S p) = ii at HII HE
                  have HBQ := Lib.hid hbq
                  clear hx h8 h9 hbq
                  cases ci
                  · cases ii
                    · have HN : Hid (allUpto (emptyP S (T (q + 1))) (p + 1) = true) := allUpto_hit hem (by rw [HE.out]; rfl)
                      clear hem
                      go_wp2_with (first | (go_at_call 85; refine (HCI.out _ (by repeat' (first | (with_reducible exact Below.refl _ _) | (with_reducible assumption) | (with_reducible refine Below.alloc ?_ ?_ _) | (with_reducible refine Below.drew ?_) | (with_reducible refine Below.setCell ?_ ?_ _) | (with_reducible refine Below.stepB (by assumption) ?_ ?_) | go_size))).mono ?_; rintro e w7 ⟨rfl, hbw7⟩; obtain ⟨hzw7, hcw7, hfw7⟩ := bfacts hbw7; (try simp at hzw7 hcw7 hfw7); (try (have : w.heap.size < w7.heap.size := by omega)); (try (have : w.heap.size + 1 < w7.heap.size := by omega)); (try (have : w.heap.size + 1 + 1 < w7.heap.size := by omega)); (try (have : w.heap.size + 1 + 1 + 1 < w7.heap.size := by omega))) | (go_at_call 86; refine (HII.out _).mono ?_; rintro e w8 ⟨rfl, hbw8⟩; obtain ⟨hzw8, hcw8, hfw8⟩ := bfacts hbw8; (try simp at hzw8 hcw8 hfw8); (try (have : w.heap.size < w8.heap.size := by omega)); (try (have : w.heap.size + 1 < w8.heap.size := by omega)); (try (have : w.heap.size + 1 + 1 < w8.heap.size := by omega)); (try (have : w.heap.size + 1 + 1 + 1 < w8.heap.size := by omega))))
                      have hq8 : Below wq.heap.size wq w8 := by repeat' (first | (with_reducible exact Below.refl _ _) | (with_reducible assumption) | (with_reducible refine Below.alloc ?_ ?_ _) | (with_reducible refine Below.drew ?_) | (with_reducible refine Below.setCell ?_ ?_ _) | (with_reducible refine Below.stepB (by assumption) ?_ ?_) | go_size)
                      go_roundw
                      case rel => exact ⟨p + 1, by omega, by go_num, HN, H8.out.below hq8 hl8q, H9.out.below hq8 hl9q, HBQ.out.trans (hq8.mono hzq)⟩
                      case measure => simp [intOf]; omega
                    · have HN : Hid (false = meshB S k T m) := by
                        show _ = _
                        rw [HV.out, allUpto_not (k := (q + 1)) (by rw [triOk, emptyB, allUpto_not (k := p) (by rw [HE.out]; rfl) k hltp]; simp) m hlti, Bool.and_false]
                      clear hem
                      go_wp2_with (first | (go_at_call 85; refine (HCI.out _ (by repeat' (first | (with_reducible exact Below.refl _ _) | (with_reducible assumption) | (with_reducible refine Below.alloc ?_ ?_ _) | (with_reducible refine Below.drew ?_) | (with_reducible refine Below.setCell ?_ ?_ _) | (with_reducible refine Below.stepB (by assumption) ?_ ?_) | go_size))).mono ?_; rintro e w7 ⟨rfl, hbw7⟩; obtain ⟨hzw7, hcw7, hfw7⟩ := bfacts hbw7; (try simp at hzw7 hcw7 hfw7); (try (have : w.heap.size < w7.heap.size := by omega)); (try (have : w.heap.size + 1 < w7.heap.size := by omega)); (try (have : w.heap.size + 1 + 1 < w7.heap.size := by omega)); (try (have : w.heap.size + 1 + 1 + 1 < w7.heap.size := by omega))) | (go_at_call 86; refine (HII.out _).mono ?_; rintro e w8 ⟨rfl, hbw8⟩; obtain ⟨hzw8, hcw8, hfw8⟩ := bfacts hbw8; (try simp at hzw8 hcw8 hfw8); (try (have : w.heap.size < w8.heap.size := by omega)); (try (have : w.heap.size + 1 < w8.heap.size := by omega)); (try (have : w.heap.size + 1 + 1 < w8.heap.size := by omega)); (try (have : w.heap.size + 1 + 1 + 1 < w8.heap.size := by omega))))
                      have hq8 : Below wq.heap.size wq w8 := by repeat' (first | (with_reducible exact Below.refl _ _) | (with_reducible assumption) | (with_reducible refine Below.alloc ?_ ?_ _) | (with_reducible refine Below.drew ?_) | (with_reducible refine Below.setCell ?_ ?_ _) | (with_reducible refine Below.stepB (by assumption) ?_ ?_) | go_size)
                      go_ret
                      exact ⟨ret_bool HN.out, HBQ.out.trans (hq8.mono hzq)⟩
                  · have HN : Hid (allUpto (emptyP S (T (q + 1))) (p + 1) = true) := allUpto_hit hem (by rw [HE.out]; rfl)
                    clear hem
                    go_wp2_with (go_at_call 85; refine (HCI.out _ (by repeat' (first | (with_reducible exact Below.refl _ _) | (with_reducible assumption) | (with_reducible refine Below.alloc ?_ ?_ _) | (with_reducible refine Below.drew ?_) | (with_reducible refine Below.setCell ?_ ?_ _) | (with_reducible refine Below.stepB (by assumption) ?_ ?_) | go_size))).mono ?_; rintro e w7 ⟨rfl, hbw7⟩; obtain ⟨hzw7, hcw7, hfw7⟩ := bfacts hbw7; (try simp at hzw7 hcw7 hfw7); (try (have : w.heap.size < w7.heap.size := by omega)); (try (have : w.heap.size + 1 < w7.heap.size := by omega)); (try (have : w.heap.size + 1 + 1 < w7.heap.size := by omega)); (try (have : w.heap.size + 1 + 1 + 1 < w7.heap.size := by omega)))
                    have hq8 : Below wq.heap.size wq w7 := by repeat' (first | (with_reducible exact Below.refl _ _) | (with_reducible assumption) | (with_reducible refine Below.alloc ?_ ?_ _) | (with_reducible refine Below.drew ?_) | (with_reducible refine Below.setCell ?_ ?_ _) | (with_reducible refine Below.stepB (by assumption) ?_ ?_) | go_size)
                    go_roundw
                    case rel => exact ⟨p + 1, by omega, by go_num, HN, H8.out.below hq8 hl8q, H9.out.below hq8 hl9q, HBQ.out.trans (hq8.mono hzq)⟩
                    case measure => simp [intOf]; omega
                · obtain rfl : p = k := by omega
                  have HEM : Hid (emptyB S p (T (q + 1)) = true) := hem
                  have HBQ := Lib.hid hbq
                  have hic : (q + 1) ≤ c2 := by omega
                  clear hem h8 h9 hbq
                  go_wp2
                  go_loopw [92] (fun v wd => ∃ j : Nat, j ≤ (q + 1) ∧ v = .int .i64 j ∧ Hid (allUpto (apartP S T ((q + 1))) j = true) ∧ Blk wd w5.heap.size 95 #[.int .i64 (cn S (T (q + 1)) 0).x, .int .i64 (cn S (T (q + 1)) 0).y, .int .i64 (cn S (T (q + 1)) 1).x, .int .i64 (cn S (T (q + 1)) 1).y, .int .i64 (cn S (T (q + 1)) 2).x, .int .i64 (cn S (T (q + 1)) 2).y] ∧ Below w.heap.size w wd) (fun v _ => (q + 1) - (intOf v).toNat)
                  case atStart => exact ⟨0, Nat.zero_le _, rfl, rfl, H9.out, HBQ.out⟩
                  case round =>
                    rename World => wz
                    obtain ⟨wd, rfl⟩ : ∃ wd : World, wd = wz := ⟨_, rfl⟩
                    obtain ⟨j, hj, rfl, hap, h9, hbd⟩ := hrel
                    have hzd := hbd.size
                    have hl9d := h9.lt
                    have H9d := Lib.hid h9
                    by_cases hltj : j < (q + 1)
                    · (try exact absurd hltj (by omega))
                      all_goals
                        obtain ⟨b', off', hA', _, hbl4, u0, u1, u2⟩ := HS2.out.at (k := j) hbd (by omega)
                        obtain ⟨rfl, rfl⟩ : b2 = b' ∧ off2 = off' := by simpa using hA'
                        have r0 : wd.cell? ⟨w5.heap.size, 0, none⟩ = some (.int .i64 (cn S (T (q + 1)) 0).x) := h9.cell 0
                        have r1 : wd.cell? ⟨w5.heap.size, 1, none⟩ = some (.int .i64 (cn S (T (q + 1)) 0).y) := h9.cell 1
                        have r2 : wd.cell? ⟨w5.heap.size, 2, none⟩ = some (.int .i64 (cn S (T (q + 1)) 1).x) := h9.cell 2
                        have r3 : wd.cell? ⟨w5.heap.size, 3, none⟩ = some (.int .i64 (cn S (T (q + 1)) 1).y) := h9.cell 3
                        have r4 : wd.cell? ⟨w5.heap.size, 4, none⟩ = some (.int .i64 (cn S (T (q + 1)) 2).x) := h9.cell 4
                        have r5 : wd.cell? ⟨w5.heap.size, 5, none⟩ = some (.int .i64 (cn S (T (q + 1)) 2).y) := h9.cell 5
                        have htj : trB S p (T j) = true := by
                          have := allUpto_lt hok j hltj
                          simp only [triOk, Bool.and_eq_true] at this
                          exact this.1
                        have HBD := Lib.hid hbd
                        have HC2 := Lib.hid (fun W (hb : Below wd.heap.size wd W) => cornersOf_any A p c S (T j) W (HS.out.below (HBD.out.trans (hb.mono hzd))) hn (trB_idx htj))
                        have hid := idxB_at (trB_idx htj)
                        have y0 : spB (cn S (T j) 0) = true := HSP.out _ (by have := hid 0 (by omega); omega)
                        have y1 : spB (cn S (T j) 1) = true := HSP.out _ (by have := hid 1 (by omega); omega)
                        have y2 : spB (cn S (T j) 2) = true := HSP.out _ (by have := hid 2 (by omega); omega)
                        have HP1 := Lib.hid (fun W => parts_any (cn S (T (q + 1)) 0) (cn S (T (q + 1)) 1) (cn S (T (q + 1)) 2) (cn S (T j) 0) (cn S (T j) 1) (cn S (T j) 2) W HSB.out.1 HSB.out.2.1 HSB.out.2.2 y0 y1 y2)
                        have HP2 := Lib.hid (fun W => parts_any (cn S (T j) 0) (cn S (T j) 1) (cn S (T j) 2) (cn S (T (q + 1)) 0) (cn S (T (q + 1)) 1) (cn S (T (q + 1)) 2) W y0 y1 y2 HSB.out.1 HSB.out.2.1 HSB.out.2.2)
                        have HE : Hid (apartP S T ((q + 1)) j = (partsT (cn S (T (q + 1)) 0) (cn S (T (q + 1)) 1) (cn S (T (q + 1)) 2) (cn S (T j) 0) (cn S (T j) 1) (cn S (T j) 2) || partsT (cn S (T j) 0) (cn S (T j) 1) (cn S (T j) 2) (cn S (T (q + 1)) 0) (cn S (T (q + 1)) 1) (cn S (T (q + 1)) 2))) := rfl
                        generalize partsT (cn S (T (q + 1)) 0) (cn S (T (q + 1)) 1) (cn S (T (q + 1)) 2) (cn S (T j) 0) (cn S (T j) 1) (cn S (T j) 2) = c1 at HP1 HE
                        generalize partsT (cn S (T j) 0) (cn S (T j) 1) (cn S (T j) 2) (cn S (T (q + 1)) 0) (cn S (T (q + 1)) 1) (cn S (T (q + 1)) 2) = cc2 at HP2 HE
                        clear hA' h9 htj hid y0 y1 y2 hbd
                        cases c1
                        · cases cc2
                          · have HN : Hid (false = meshB S p T m) := by
                              show _ = _
                              rw [HV.out, allUpto_not (k := (q + 1)) (by rw [triOk, apartB, allUpto_not (k := j) (by rw [HE.out]; rfl) _ hltj]; simp) m hlti, Bool.and_false]
                            clear hap
                            go_wp2_with (first | (go_at_call 84; refine (HC2.out _ (by repeat' (first | (with_reducible exact Below.refl _ _) | (with_reducible assumption) | (with_reducible refine Below.alloc ?_ ?_ _) | (with_reducible refine Below.drew ?_) | (with_reducible refine Below.setCell ?_ ?_ _) | (with_reducible refine Below.stepB (by assumption) ?_ ?_) | go_size))).mono ?_; rintro e w10 ⟨rfl, hbw10⟩; obtain ⟨hzw10, hcw10, hfw10⟩ := bfacts hbw10; (try simp at hzw10 hcw10 hfw10); (try (have : w.heap.size < w10.heap.size := by omega)); (try (have : w.heap.size + 1 < w10.heap.size := by omega)); (try (have : w.heap.size + 1 + 1 < w10.heap.size := by omega)); (try (have : w.heap.size + 1 + 1 + 1 < w10.heap.size := by omega)); have hl10 : w5.heap.size < w10.heap.size := by omega) | (go_at_call 87; (with_reducible refine (HP1.out _).mono ?_); rintro e w11 ⟨rfl, hbw11⟩; obtain ⟨hzw11, hcw11, hfw11⟩ := bfacts hbw11; (try simp at hzw11 hcw11 hfw11); (try (have : w.heap.size < w11.heap.size := by omega)); (try (have : w.heap.size + 1 < w11.heap.size := by omega)); (try (have : w.heap.size + 1 + 1 < w11.heap.size := by omega)); (try (have : w.heap.size + 1 + 1 + 1 < w11.heap.size := by omega))) | (go_at_call 87; (with_reducible refine (HP2.out _).mono ?_); rintro e w12 ⟨rfl, hbw12⟩; obtain ⟨hzw12, hcw12, hfw12⟩ := bfacts hbw12; (try simp at hzw12 hcw12 hfw12); (try (have : w.heap.size < w12.heap.size := by omega)); (try (have : w.heap.size + 1 < w12.heap.size := by omega)); (try (have : w.heap.size + 1 + 1 < w12.heap.size := by omega)); (try (have : w.heap.size + 1 + 1 + 1 < w12.heap.size := by omega))))
                            have hq8 : Below wd.heap.size wd w12 := by repeat' (first | (with_reducible exact Below.refl _ _) | (with_reducible assumption) | (with_reducible refine Below.alloc ?_ ?_ _) | (with_reducible refine Below.drew ?_) | (with_reducible refine Below.setCell ?_ ?_ _) | (with_reducible refine Below.stepB (by assumption) ?_ ?_) | go_size)
                            go_ret
                            exact ⟨ret_bool HN.out, HBD.out.trans (hq8.mono hzd)⟩
                          · have HN : Hid (allUpto (apartP S T ((q + 1))) (j + 1) = true) := allUpto_hit hap (by rw [HE.out]; rfl)
                            clear hap
                            go_wp2_with (first | (go_at_call 84; refine (HC2.out _ (by repeat' (first | (with_reducible exact Below.refl _ _) | (with_reducible assumption) | (with_reducible refine Below.alloc ?_ ?_ _) | (with_reducible refine Below.drew ?_) | (with_reducible refine Below.setCell ?_ ?_ _) | (with_reducible refine Below.stepB (by assumption) ?_ ?_) | go_size))).mono ?_; rintro e w10 ⟨rfl, hbw10⟩; obtain ⟨hzw10, hcw10, hfw10⟩ := bfacts hbw10; (try simp at hzw10 hcw10 hfw10); (try (have : w.heap.size < w10.heap.size := by omega)); (try (have : w.heap.size + 1 < w10.heap.size := by omega)); (try (have : w.heap.size + 1 + 1 < w10.heap.size := by omega)); (try (have : w.heap.size + 1 + 1 + 1 < w10.heap.size := by omega)); have hl10 : w5.heap.size < w10.heap.size := by omega) | (go_at_call 87; (with_reducible refine (HP1.out _).mono ?_); rintro e w11 ⟨rfl, hbw11⟩; obtain ⟨hzw11, hcw11, hfw11⟩ := bfacts hbw11; (try simp at hzw11 hcw11 hfw11); (try (have : w.heap.size < w11.heap.size := by omega)); (try (have : w.heap.size + 1 < w11.heap.size := by omega)); (try (have : w.heap.size + 1 + 1 < w11.heap.size := by omega)); (try (have : w.heap.size + 1 + 1 + 1 < w11.heap.size := by omega))) | (go_at_call 87; (with_reducible refine (HP2.out _).mono ?_); rintro e w12 ⟨rfl, hbw12⟩; obtain ⟨hzw12, hcw12, hfw12⟩ := bfacts hbw12; (try simp at hzw12 hcw12 hfw12); (try (have : w.heap.size < w12.heap.size := by omega)); (try (have : w.heap.size + 1 < w12.heap.size := by omega)); (try (have : w.heap.size + 1 + 1 < w12.heap.size := by omega)); (try (have : w.heap.size + 1 + 1 + 1 < w12.heap.size := by omega))))
                            have hq8 : Below wd.heap.size wd w12 := by repeat' (first | (with_reducible exact Below.refl _ _) | (with_reducible assumption) | (with_reducible refine Below.alloc ?_ ?_ _) | (with_reducible refine Below.drew ?_) | (with_reducible refine Below.setCell ?_ ?_ _) | (with_reducible refine Below.stepB (by assumption) ?_ ?_) | go_size)
                            go_roundw
                            case rel => exact ⟨j + 1, by omega, by go_num, HN, H9d.out.below hq8 hl9d, HBD.out.trans (hq8.mono hzd)⟩
                            case measure => simp [intOf]; omega
                        · have HN : Hid (allUpto (apartP S T ((q + 1))) (j + 1) = true) := allUpto_hit hap (by rw [HE.out]; rfl)
                          clear hap
                          go_wp2_with (first | (go_at_call 84; refine (HC2.out _ (by repeat' (first | (with_reducible exact Below.refl _ _) | (with_reducible assumption) | (with_reducible refine Below.alloc ?_ ?_ _) | (with_reducible refine Below.drew ?_) | (with_reducible refine Below.setCell ?_ ?_ _) | (with_reducible refine Below.stepB (by assumption) ?_ ?_) | go_size))).mono ?_; rintro e w10 ⟨rfl, hbw10⟩; obtain ⟨hzw10, hcw10, hfw10⟩ := bfacts hbw10; (try simp at hzw10 hcw10 hfw10); (try (have : w.heap.size < w10.heap.size := by omega)); (try (have : w.heap.size + 1 < w10.heap.size := by omega)); (try (have : w.heap.size + 1 + 1 < w10.heap.size := by omega)); (try (have : w.heap.size + 1 + 1 + 1 < w10.heap.size := by omega)); have hl10 : w5.heap.size < w10.heap.size := by omega) | (go_at_call 87; (with_reducible refine (HP1.out _).mono ?_); rintro e w11 ⟨rfl, hbw11⟩; obtain ⟨hzw11, hcw11, hfw11⟩ := bfacts hbw11; (try simp at hzw11 hcw11 hfw11); (try (have : w.heap.size < w11.heap.size := by omega)); (try (have : w.heap.size + 1 < w11.heap.size := by omega)); (try (have : w.heap.size + 1 + 1 < w11.heap.size := by omega)); (try (have : w.heap.size + 1 + 1 + 1 < w11.heap.size := by omega))))
                          have hq8 : Below wd.heap.size wd w11 := by repeat' (first | (with_reducible exact Below.refl _ _) | (with_reducible assumption) | (with_reducible refine Below.alloc ?_ ?_ _) | (with_reducible refine Below.drew ?_) | (with_reducible refine Below.setCell ?_ ?_ _) | (with_reducible refine Below.stepB (by assumption) ?_ ?_) | go_size)
                          go_roundw
                          case rel => exact ⟨j + 1, by omega, by go_num, HN, H9d.out.below hq8 hl9d, HBD.out.trans (hq8.mono hzd)⟩
                          case measure => simp [intOf]; omega
                    · obtain rfl : j = (q + 1) := by omega
                      have HN : Hid (allUpto (triOk S p T) ((q + 1) + 1) = true) := allUpto_hit hok (by rw [triOk, HTR.out, show (decide (q + 1 = 0) || lessT (T (q + 1 - 1)) (T (q + 1))) = true by rw [Nat.add_sub_cancel, HLL.out]; simp, HEM.out, apartB, hap]; rfl)
                      have HBD := Lib.hid hbd
                      clear hap h9 hbd
                      go_wp2
                      go_roundw
                      case rel => exact ⟨(q + 1) + 1, by omega, by go_num, HN, HBD.out⟩
                      case measure => simp [intOf]; omega
            · have hcv : decide (0 ≤ cv) = true := by rw [HLS.out, hls]; rfl
              have HN : Hid (false = meshB S k T m) := by show _ = _; rw [HV.out, allUpto_not (k := q + 1) (by rw [triOk, Nat.add_sub_cancel, hls]; simp) m hlti, Bool.and_false]
              clear hls
              go_wp2_with fail
              refine wp_region_later (by kernel_rfl) (by kernel_rfl) (fun hlx => ?_)
              repeat (go_big_quiet_step ((first | (go_at_call 82; with_reducible exact Later.call (HT.out _)) | (go_at_call 83; with_reducible exact Later.call (HCM.out _)))))
              refine wpQuiet_nil ?_
              clear hlx
              intro w3 hbw3
              obtain ⟨hzw3, hcw3, hfw3⟩ := bfacts hbw3; (try simp at hzw3 hcw3 hfw3); (try (have : w.heap.size < w3.heap.size := by omega)); (try (have : w.heap.size + 1 < w3.heap.size := by omega)); (try (have : w.heap.size + 1 + 1 < w3.heap.size := by omega)); (try (have : w.heap.size + 1 + 1 + 1 < w3.heap.size := by omega))
              clear w1'
              go_wp2
              go_ret
              exact ⟨ret_bool HN.out, by repeat' (first | (with_reducible exact Below.refl _ _) | (with_reducible assumption) | (with_reducible refine Below.alloc ?_ ?_ _) | (with_reducible refine Below.drew ?_) | (with_reducible refine Below.setCell ?_ ?_ _) | (with_reducible refine Below.stepB (by assumption) ?_ ?_) | go_size)⟩
        · obtain rfl : i = m := by omega
          have HN : Hid (true = meshB S k T i) := by show _ = _; rw [HV.out, HDS.out, hok]; rfl
          clear hok
          go_wp2
          go_ret
          exact ⟨ret_bool HN.out, hbr⟩
end Go.Proofs.Ytfflbkmncnaffaa
