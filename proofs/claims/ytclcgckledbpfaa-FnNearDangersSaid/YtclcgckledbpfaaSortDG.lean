/- Contracts of the library's stable sort of a short list of one's own: by insertion. The comparison by its contract. -/
import Derived.Test.YtclcgckledbpfaaDangerA
import Derived.Test.YtclcgckledbpfaaMem
import Derived.Test.YtclcgckledbpfaaIns
import Derived.Test.YtclcgckledbpfaaStill
import Derived.Shelf.Abstract
namespace Go.Proofs.Ytclcgckledbpfaa
open Go.RowKit
/-- less, by a comparison -/
def ltCDG (cf : DG → DG → Int) : DG → DG → Bool := fun x y => decide (cf x y < 0)
theorem putDG {w : World} {lo b n i : Nat} {G : Nat → Nat → Value} (x : DG) (h : Own w lo 7 (some ⟨b, 0, none⟩) n G) :
    Own (((((((w.setCell ⟨b, i * 7, none⟩ (.int .i64 x.id)).setCell ⟨b, i * 7 + 1, none⟩ (.int .i64 x.kind)).setCell ⟨b, i * 7 + 2, none⟩ (.int .i64 x.x)).setCell ⟨b, i * 7 + 3, none⟩ (.int .i64 x.y)).setCell ⟨b, i * 7 + 4, none⟩ (.int .i64 x.least)).setCell ⟨b, i * 7 + 5, none⟩ (.int .i64 x.quality)).setCell ⟨b, i * 7 + 6, none⟩ (.int .i64 x.seen)) lo 7 (some ⟨b, 0, none⟩) n (fun a j => if a = i then x.cell j else G a j) := by
  refine Own.congr (((((((h.set0 (i := i) (by decide)).set (i := i) (j := 1) (by decide)).set (i := i) (j := 2) (by decide)).set (i := i) (j := 3) (by decide)).set (i := i) (j := 4) (by decide)).set (i := i) (j := 5) (by decide)).set (i := i) (j := 6) (by decide)) (fun a j _ hj => ?_)
  by_cases h1 : a = i
  · subst h1
    have : j = 0 ∨ j = 1 ∨ j = 2 ∨ j = 3 ∨ j = 4 ∨ j = 5 ∨ j = 6 := by omega
    rcases this with rfl | rfl | rfl | rfl | rfl | rfl | rfl <;> simp [DG.cell]
  · simp [h1]
theorem putKeptDG {w w' : World} {b n i : Nat} (x : DG) (h : Kept w w' (some ⟨b, 0, none⟩) n) (hn : 0 < n) : Kept w (((((((w'.setCell ⟨b, i * 7, none⟩ (.int .i64 x.id)).setCell ⟨b, i * 7 + 1, none⟩ (.int .i64 x.kind)).setCell ⟨b, i * 7 + 2, none⟩ (.int .i64 x.x)).setCell ⟨b, i * 7 + 3, none⟩ (.int .i64 x.y)).setCell ⟨b, i * 7 + 4, none⟩ (.int .i64 x.least)).setCell ⟨b, i * 7 + 5, none⟩ (.int .i64 x.quality)).setCell ⟨b, i * 7 + 6, none⟩ (.int .i64 x.seen)) (some ⟨b, 0, none⟩) n := (((((((h.setCell hn _).setCell hn _).setCell hn _).setCell hn _).setCell hn _).setCell hn _).setCell hn _)
set_option maxRecDepth 100000 in
set_option maxHeartbeats 1000000 in
theorem insSortDG_any (b n c lo : Nat) (f : Nat → DG) (ok : DG → Prop) (cf : DG → DG → Int) (g : Nat) (lb : Array Value) (w : World) (hO : Own w lo 7 (some ⟨b, 0, none⟩) n (fun i j => (f i).cell j)) (hn : n ≤ 1048576)
    (hok : ∀ i, i < n → ok (f i)) (eg : ∀ args w, (callFunc g args).run Try.prog w = .ok (.enter g args) w)
    (hp : ∀ (x y : DG) W, ok x → ok y → Kept w W (some ⟨b, 0, none⟩) n → Calls Try.prog g (#[.agg #[.int .i64 x.id, .int .i64 x.kind, .int .i64 x.x, .int .i64 x.y, .int .i64 x.least, .int .i64 x.quality, .int .i64 x.seen], .agg #[.int .i64 y.id, .int .i64 y.kind, .int .i64 y.x, .int .i64 y.y, .int .i64 y.least, .int .i64 y.quality, .int .i64 y.seen]] ++ lb) W fun e w' => e = .returned (.int .i64 (cf x y)) ∧ Below W.heap.size W w') :
    Calls Try.prog 90 #[.slice (some ⟨b, 0, none⟩) n c, .int .i64 0, .int .i64 n, .func (.func g) #[] lb] w
    fun e w' => e = .returned (.tuple #[]) ∧ Own w' lo 7 (some ⟨b, 0, none⟩) n (fun i j => (insO (ltCDG cf) f n i).cell j) ∧ Kept w w' (some ⟨b, 0, none⟩) n := by
  have HP := Lib.hid hp
  have HOK := Lib.hid hok
  have HO := Lib.hid hO
  clear hp hok hO
  go_enter Try.func90, Try.ntmps90
  go_wp2
  go_loopw [8] (fun v8 wr => ∃ (i : Nat), v8 = .int .i64 i ∧ 1 ≤ i ∧ (i ≤ n ∨ i = 1) ∧ Hid (Own wr lo 7 (some ⟨b, 0, none⟩) n (fun a j => (insO (ltCDG cf) f i a).cell j) ∧ Kept w wr (some ⟨b, 0, none⟩) n ∧ ∀ q, q < n → ok (insO (ltCDG cf) f i q))) (fun v8 _ => n - (intOf v8).toNat)
  case atStart => exact ⟨1, by go_num, by omega, .inr rfl, HO.out, Kept.refl _ _ _, HOK.out⟩
  case round =>
    obtain ⟨i, rfl, hi1, hin, HR⟩ := hrel
    by_cases hlt : i < n
    · clear HO
      have hltz : (i : Int) < (n : Int) := by omega
      go_wp2
      go_loopw [9] (fun v9 wq => ∃ (j : Nat) (g' : Nat → DG), v9 = .int .i64 j ∧ j ≤ i ∧ Hid (insI (ltCDG cf) j g' = insO (ltCDG cf) f (i + 1) ∧ Own wq lo 7 (some ⟨b, 0, none⟩) n (fun a j => (g' a).cell j) ∧ Kept w wq (some ⟨b, 0, none⟩) n ∧ ∀ q, q < n → ok (g' q))) (fun v9 _ => (intOf v9).toNat)
      case atStart => exact ⟨i, _, rfl, Nat.le_refl _, rfl, HR.out.1, HR.out.2.1, HR.out.2.2⟩
      case round =>
        rename World => wq
        obtain ⟨j, g', rfl, hji, HQ⟩ := hrel
        clear HR
        rcases Nat.eq_zero_or_pos j with rfl | hj0
        · have HE : Hid (g' = insO (ltCDG cf) f (i + 1)) := HQ.out.1
          have hg0 : decide ((0 : Int) > (0 : Int)) = false := by decide
          go_wp2
          refine wp_region_later (by kernel_rfl) (by kernel_rfl) (fun hlx => ?_)
          repeat (go_big_quiet_step (fail))
          refine wpQuiet_nil ?_
          clear hlx
          intro w3 hbw3
          obtain ⟨hzw3, hcw3, hfw3⟩ := bfacts hbw3; (try simp at hzw3 hcw3 hfw3); (try (have : w.heap.size < w3.heap.size := by omega)); (try (have : w.heap.size + 1 < w3.heap.size := by omega)); (try (have : w.heap.size + 1 + 1 < w3.heap.size := by omega)); (try (have : w.heap.size + 1 + 1 + 1 < w3.heap.size := by omega))
          go_wp2
          go_roundw
          case rel => exact ⟨i + 1, by go_num, by omega, .inl (by omega), by have h := HQ.out; have e := HE.out; subst e; exact ⟨h.2.1.below hbw3, h.2.2.1.laterB hbw3, h.2.2.2⟩⟩
          case measure => simp [intOf]; omega
        · obtain ⟨m, rfl⟩ : ∃ m, j = m + 1 := ⟨j - 1, by omega⟩
          have hR := HQ.out.2.1
          have c0 := hR.at_ (i := m + 1) (j := 0) (by omega) (by decide)
          have c1 := hR.at_ (i := m + 1) (j := 1) (by omega) (by decide)
          have c2 := hR.at_ (i := m + 1) (j := 2) (by omega) (by decide)
          have c3 := hR.at_ (i := m + 1) (j := 3) (by omega) (by decide)
          have c4 := hR.at_ (i := m + 1) (j := 4) (by omega) (by decide)
          have c5 := hR.at_ (i := m + 1) (j := 5) (by omega) (by decide)
          have c6 := hR.at_ (i := m + 1) (j := 6) (by omega) (by decide)
          have d0 := hR.at_ (i := m) (j := 0) (by omega) (by decide)
          have d1 := hR.at_ (i := m) (j := 1) (by omega) (by decide)
          have d2 := hR.at_ (i := m) (j := 2) (by omega) (by decide)
          have d3 := hR.at_ (i := m) (j := 3) (by omega) (by decide)
          have d4 := hR.at_ (i := m) (j := 4) (by omega) (by decide)
          have d5 := hR.at_ (i := m) (j := 5) (by omega) (by decide)
          have d6 := hR.at_ (i := m) (j := 6) (by omega) (by decide)
          obtain ⟨hbl, hfz⟩ := hR.free (by omega)
          simp only [DG.cell, Nat.add_zero] at c0 c1 c2 c3 c4 c5 c6 d0 d1 d2 d3 d4 d5 d6
          have hCF := Lib.hid (fun W (hb : Below wq.heap.size wq W) => HP.out (g' (m + 1)) (g' m) W (HQ.out.2.2.2 _ (by omega)) (HQ.out.2.2.2 _ (by omega)) (HQ.out.2.2.1.laterB hb))
          clear hR
          have hg0 : decide (((m : Int) + 1) > (0 : Int)) = true := decide_eq_true (by omega)
          have hm0 : (0 : Int) ≤ (m : Int) := by omega
          have hm1 : (m : Int) < (n : Int) := by omega
          have hm2 : (m : Int) + 1 < (n : Int) := by omega
          have hm3 : (0 : Int) ≤ (m : Int) + 1 := by omega
          obtain ⟨z, hz⟩ : ∃ z, cf (g' (m + 1)) (g' m) = z := ⟨_, rfl⟩
          rw [hz] at hCF
          have HZ := Lib.hid hz
          clear hz
          by_cases hlz : z < 0
          · go_wp2
            refine wp_region_later (by kernel_rfl) (by kernel_rfl) (fun hlx => ?_)
            repeat (go_big_quiet_step ((go_at_fn g; exact Later.call (hCF.out _ (Later.below _)))))
            refine wpQuiet_nil ?_
            clear hlx
            intro w3 hbw3
            obtain ⟨hzw3, hcw3, hfw3⟩ := bfacts hbw3; (try simp at hzw3 hcw3 hfw3); (try (have : w.heap.size < w3.heap.size := by omega)); (try (have : w.heap.size + 1 < w3.heap.size := by omega)); (try (have : w.heap.size + 1 + 1 < w3.heap.size := by omega)); (try (have : w.heap.size + 1 + 1 + 1 < w3.heap.size := by omega))
            have e0 := fun q => hcw3 b q hbl
            have hblw3 : b < w3.heap.size := by omega
            have hfz3 : ∀ q, w3.frozen? ⟨b, q, none⟩ = false := fun q => (hfw3 b q hbl).trans (hfz q)
            have c0' := (e0 _).trans c0
            have c1' := (e0 _).trans c1
            have c2' := (e0 _).trans c2
            have c3' := (e0 _).trans c3
            have c4' := (e0 _).trans c4
            have c5' := (e0 _).trans c5
            have c6' := (e0 _).trans c6
            have d0' := (e0 _).trans d0
            have d1' := (e0 _).trans d1
            have d2' := (e0 _).trans d2
            have d3' := (e0 _).trans d3
            have d4' := (e0 _).trans d4
            have d5' := (e0 _).trans d5
            have d6' := (e0 _).trans d6
            clear c0 c1 c2 c3 c4 c5 c6 d0 d1 d2 d3 d4 d5 d6 hfz e0 hcw3 hfw3
            go_wp2
            have hwm : IntKind.i64.wrap (m : Int) = (m : Int) := by rw [IntKind.wrap_i64]; omega
            go_region
            go_wp2
            go_roundw
            case rel =>
              refine ⟨m, swpF g' m, by go_num, by omega, ?_, ?_, ?_, ?_⟩
              · rw [← HQ.out.1]
                show _ = insI (ltCDG cf) (m + 1) g'
                rw [insI, if_pos (by simp only [ltCDG]; rw [HZ.out]; exact decide_eq_true hlz)]
              · refine Own.congr (Own.drew (putDG (i := m) (g' (m + 1)) (putDG (i := m + 1) (g' m) (HQ.out.2.1.below hbw3)))) (fun a j' _ _ => ?_)
                by_cases h1 : a = m
                · subst h1; simp [swpF]
                · by_cases h2 : a = m + 1
                  · subst h2; simp [swpF]
                  · simp [swpF, h1, h2]
              · exact Kept.drew (putKeptDG (i := m) (g' (m + 1)) (putKeptDG (i := m + 1) (g' m) (HQ.out.2.2.1.laterB hbw3) (by omega)) (by omega))
              · intro q hq
                have h := HQ.out.2.2.2
                simp only [swpF]
                split
                · exact h _ (by omega)
                · split
                  · exact h _ (by omega)
                  · exact h _ hq
            case measure => simp [intOf]
          · have hlz2 : decide (z < 0) = false := decide_eq_false hlz
            have HE : Hid (g' = insO (ltCDG cf) f (i + 1)) := by
              show _ = _
              rw [← HQ.out.1, insI, if_neg (by simp only [ltCDG]; rw [HZ.out, hlz2]; simp)]
            go_wp2
            refine wp_region_later (by kernel_rfl) (by kernel_rfl) (fun hlx => ?_)
            repeat (go_big_quiet_step ((go_at_fn g; exact Later.call (hCF.out _ (Later.below _)))))
            refine wpQuiet_nil ?_
            clear hlx
            intro w3 hbw3
            obtain ⟨hzw3, hcw3, hfw3⟩ := bfacts hbw3; (try simp at hzw3 hcw3 hfw3); (try (have : w.heap.size < w3.heap.size := by omega)); (try (have : w.heap.size + 1 < w3.heap.size := by omega)); (try (have : w.heap.size + 1 + 1 < w3.heap.size := by omega)); (try (have : w.heap.size + 1 + 1 + 1 < w3.heap.size := by omega))
            go_wp2
            go_roundw
            case rel => exact ⟨i + 1, by go_num, by omega, .inl (by omega), by have h := HQ.out; have e := HE.out; subst e; exact ⟨h.2.1.below hbw3, h.2.2.1.laterB hbw3, h.2.2.2⟩⟩
            case measure => simp [intOf]; omega
    · have hltz : ¬ (i : Int) < (n : Int) := by omega
      have HE : Hid (Own wr lo 7 (some ⟨b, 0, none⟩) n (fun i j => (insO (ltCDG cf) f n i).cell j)) := by
        show Own _ _ _ _ _ _
        rcases hin with h | h
        · obtain rfl : i = n := by omega
          exact HR.out.1
        · subst h
          rcases (show n = 0 ∨ n = 1 by omega) with rfl | rfl
          · intro h0; exact absurd h0 (by omega)
          · exact HR.out.1
      go_wp2
      go_end0
      exact ⟨rfl, HE.out, HR.out.2.1⟩
theorem stableDG_any (b n c lo : Nat) (f : Nat → DG) (ok : DG → Prop) (cf : DG → DG → Int) (g : Nat) (lb : Array Value) (w : World) (hO : Own w lo 7 (some ⟨b, 0, none⟩) n (fun i j => (f i).cell j)) (hn : n < 20)
    (hok : ∀ i, i < n → ok (f i)) (eg : ∀ args w, (callFunc g args).run Try.prog w = .ok (.enter g args) w)
    (hp : ∀ (x y : DG) W, ok x → ok y → Kept w W (some ⟨b, 0, none⟩) n → Calls Try.prog g (#[.agg #[.int .i64 x.id, .int .i64 x.kind, .int .i64 x.x, .int .i64 x.y, .int .i64 x.least, .int .i64 x.quality, .int .i64 x.seen], .agg #[.int .i64 y.id, .int .i64 y.kind, .int .i64 y.x, .int .i64 y.y, .int .i64 y.least, .int .i64 y.quality, .int .i64 y.seen]] ++ lb) W fun e w' => e = .returned (.int .i64 (cf x y)) ∧ Below W.heap.size W w') :
    Calls Try.prog 85 #[.slice (some ⟨b, 0, none⟩) n c, .int .i64 n, .func (.func g) #[] lb] w
    fun e w' => e = .returned (.tuple #[]) ∧ Own w' lo 7 (some ⟨b, 0, none⟩) n (fun i j => (insO (ltCDG cf) f n i).cell j) ∧ Kept w w' (some ⟨b, 0, none⟩) n := by
  have hi := Lib.hid (insSortDG_any b n c lo f ok cf g lb w hO (by omega) hok eg hp)
  clear hO hok eg hp
  have h20 : ¬ (20 : Int) ≤ (n : Int) := by omega
  have h21 : ¬ (20 : Int) < (n : Int) := by omega
  go_enter Try.func85, Try.ntmps85
  go_wp2
  go_loopw [7, 8] (fun v7 v8 wr => v7 = .int .i64 0 ∧ v8 = .int .i64 20 ∧ wr = w) (fun _ _ _ => 0)
  case atStart => exact ⟨rfl, rfl, rfl⟩
  case round =>
    obtain ⟨rfl, rfl, rfl⟩ := hrel
    go_wp2_with fail
    refine hi.out.mono ?_
    rintro e w1 ⟨rfl, hO1, hk1⟩
    have HO1 := Lib.hid hO1
    have HK1 := Lib.hid hk1
    clear hO1 hk1
    go_wp2
    go_loopw [6] (fun v6 wr => v6 = .int .i64 20 ∧ wr = w1) (fun _ _ => 0)
    case atStart => exact ⟨rfl, rfl⟩
    case round =>
      rename World => wq
      obtain ⟨rfl, rfl⟩ := hrel
      go_wp2
      go_end0
      exact ⟨rfl, HO1.out, HK1.out⟩
theorem sortDG_any (b n c lo : Nat) (f : Nat → DG) (ok : DG → Prop) (cf : DG → DG → Int) (g : Nat) (lb : Array Value) (w : World) (hO : Own w lo 7 (some ⟨b, 0, none⟩) n (fun i j => (f i).cell j)) (hn : n < 20)
    (hok : ∀ i, i < n → ok (f i)) (eg : ∀ args w, (callFunc g args).run Try.prog w = .ok (.enter g args) w)
    (hp : ∀ (x y : DG) W, ok x → ok y → Kept w W (some ⟨b, 0, none⟩) n → Calls Try.prog g (#[.agg #[.int .i64 x.id, .int .i64 x.kind, .int .i64 x.x, .int .i64 x.y, .int .i64 x.least, .int .i64 x.quality, .int .i64 x.seen], .agg #[.int .i64 y.id, .int .i64 y.kind, .int .i64 y.x, .int .i64 y.y, .int .i64 y.least, .int .i64 y.quality, .int .i64 y.seen]] ++ lb) W fun e w' => e = .returned (.int .i64 (cf x y)) ∧ Below W.heap.size W w') :
    Calls Try.prog 73 #[.slice (some ⟨b, 0, none⟩) n c, .func (.func g) #[] lb] w
    fun e w' => e = .returned (.tuple #[]) ∧ Own w' lo 7 (some ⟨b, 0, none⟩) n (fun i j => (insO (ltCDG cf) f n i).cell j) ∧ Kept w w' (some ⟨b, 0, none⟩) n := by
  have hi := Lib.hid (stableDG_any b n c lo f ok cf g lb w hO hn hok eg hp)
  clear hO hok eg hp
  go_enter Try.func73, Try.ntmps73
  go_wp2_with fail
  refine hi.out.mono ?_
  rintro e w1 ⟨rfl, hO1, hk1⟩
  have HO1 := Lib.hid hO1
  have HK1 := Lib.hid hk1
  clear hO1 hk1
  go_wp2
  go_end0
  exact ⟨rfl, HO1.out, HK1.out⟩
end Go.Proofs.Ytclcgckledbpfaa
