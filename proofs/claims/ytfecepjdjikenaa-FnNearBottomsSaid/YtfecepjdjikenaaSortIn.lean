/- Contracts of the library's stable sort of a short list of one's own: by insertion. The comparison by its contract. -/
import Derived.Test.YtfecepjdjikenaaInts
import Derived.Test.YtfecepjdjikenaaIns
import Derived.Test.YtfecepjdjikenaaStill
import Derived.Shelf.Abstract
namespace Go.Proofs.Ytfecepjdjikenaa
open Go.RowKit
/-- less, by a comparison -/
def ltCIn (cf : Int → Int → Int) : Int → Int → Bool := fun x y => decide (cf x y < 0)
theorem putIn {w : World} {lo b n i : Nat} {G : Nat → Nat → Value} (x : Int) (h : Own w lo 1 (some ⟨b, 0, none⟩) n G) :
    Own (w.setCell ⟨b, i, none⟩ (.int .i64 x)) lo 1 (some ⟨b, 0, none⟩) n (fun a j => if a = i then .int .i64 x else G a j) := by
  have h2 := h.set (i := i) (j := 0) (u := .int .i64 x) (by decide)
  simp only [Nat.mul_one, Nat.add_zero] at h2
  refine h2.congr (fun a j _ hj => ?_)
  obtain rfl : j = 0 := by omega
  simp
theorem putKeptIn {w w' : World} {b n i : Nat} (x : Int) (h : Kept w w' (some ⟨b, 0, none⟩) n) (hn : 0 < n) : Kept w (w'.setCell ⟨b, i, none⟩ (.int .i64 x)) (some ⟨b, 0, none⟩) n := (h.setCell hn _)
set_option maxRecDepth 100000 in
set_option maxHeartbeats 1000000 in
theorem insSortIn_any (b n c lo : Nat) (f : Nat → Int) (ok : Int → Prop) (cf : Int → Int → Int) (g : Nat) (lb : Array Value) (w : World) (hO : Own w lo 1 (some ⟨b, 0, none⟩) n (fun i _ => .int .i64 (f i))) (hn : n ≤ 1048576)
    (hok : ∀ i, i < n → ok (f i)) (eg : ∀ args w, (callFunc g args).run Try.prog w = .ok (.enter g args) w)
    (hp : ∀ (x y : Int) W, ok x → ok y → Kept w W (some ⟨b, 0, none⟩) n → Calls Try.prog g (#[.int .i64 x, .int .i64 y] ++ lb) W fun e w' => e = .returned (.int .i64 (cf x y)) ∧ Below W.heap.size W w') :
    Calls Try.prog 119 #[.slice (some ⟨b, 0, none⟩) n c, .int .i64 0, .int .i64 n, .func (.func g) #[] lb] w
    fun e w' => e = .returned (.tuple #[]) ∧ Own w' lo 1 (some ⟨b, 0, none⟩) n (fun i _ => .int .i64 (insO (ltCIn cf) f n i)) ∧ Kept w w' (some ⟨b, 0, none⟩) n := by
  have HP := Lib.hid hp
  have HOK := Lib.hid hok
  have HO := Lib.hid hO
  clear hp hok hO
  go_enter Try.func119, Try.ntmps119
  go_wp2
  go_loopw [8] (fun v8 wr => ∃ (i : Nat), v8 = .int .i64 i ∧ 1 ≤ i ∧ (i ≤ n ∨ i = 1) ∧ Hid (Own wr lo 1 (some ⟨b, 0, none⟩) n (fun a _ => .int .i64 (insO (ltCIn cf) f i a)) ∧ Kept w wr (some ⟨b, 0, none⟩) n ∧ ∀ q, q < n → ok (insO (ltCIn cf) f i q))) (fun v8 _ => n - (intOf v8).toNat)
  case atStart => exact ⟨1, by go_num, by omega, .inr rfl, HO.out, Kept.refl _ _ _, HOK.out⟩
  case round =>
    obtain ⟨i, rfl, hi1, hin, HR⟩ := hrel
    by_cases hlt : i < n
    · clear HO
      have hltz : (i : Int) < (n : Int) := by omega
      go_wp2
      go_loopw [9] (fun v9 wq => ∃ (j : Nat) (g' : Nat → Int), v9 = .int .i64 j ∧ j ≤ i ∧ Hid (insI (ltCIn cf) j g' = insO (ltCIn cf) f (i + 1) ∧ Own wq lo 1 (some ⟨b, 0, none⟩) n (fun a _ => .int .i64 (g' a)) ∧ Kept w wq (some ⟨b, 0, none⟩) n ∧ ∀ q, q < n → ok (g' q))) (fun v9 _ => (intOf v9).toNat)
      case atStart => exact ⟨i, _, rfl, Nat.le_refl _, rfl, HR.out.1, HR.out.2.1, HR.out.2.2⟩
      case round =>
        rename World => wq
        obtain ⟨j, g', rfl, hji, HQ⟩ := hrel
        clear HR
        rcases Nat.eq_zero_or_pos j with rfl | hj0
        · have HE : Hid (g' = insO (ltCIn cf) f (i + 1)) := HQ.out.1
          have hg0 : decide ((0 : Int) > (0 : Int)) = false := by decide
          go_wp2
          refine wp_region_later (by kernel_rfl) (by kernel_rfl) (fun hlx => ?_)
          repeat (go_big_quiet_step (fail))
          refine wpQuiet_nil ?_
          clear hlx
          intro w3 hbw3
          obtain ⟨hzw3, hcw3, hfw3⟩ := bfacts hbw3; (try simp at hzw3 hcw3 hfw3); (try (have : w.heap.size < w3.heap.size := by omega)); (try (have : w.heap.size + 1 < w3.heap.size := by omega)); (try (have : w.heap.size + 1 + 1 < w3.heap.size := by omega)); (try (have : w.heap.size + 1 + 1 + 1 < w3.heap.size := by omega))
          go_wp2
          go_roundw
          case rel => exact ⟨i + 1, by go_num, by omega, .inl (by omega), by have h := HQ.out; have e := HE.out; subst e; exact ⟨h.2.1.below hbw3, h.2.2.1.laterB hbw3, h.2.2.2⟩⟩
          case measure => simp [intOf]; omega
        · obtain ⟨m, rfl⟩ : ∃ m, j = m + 1 := ⟨j - 1, by omega⟩
          have hR := HQ.out.2.1
          have c0 := hR.at_ (i := m + 1) (j := 0) (by omega) (by decide)
          have d0 := hR.at_ (i := m) (j := 0) (by omega) (by decide)
          obtain ⟨hbl, hfz⟩ := hR.free (by omega)
          simp only [Nat.mul_one, Nat.add_zero] at c0 d0
          have hCF := Lib.hid (fun W (hb : Below wq.heap.size wq W) => HP.out (g' (m + 1)) (g' m) W (HQ.out.2.2.2 _ (by omega)) (HQ.out.2.2.2 _ (by omega)) (HQ.out.2.2.1.laterB hb))
          clear hR
          have hg0 : decide (((m : Int) + 1) > (0 : Int)) = true := decide_eq_true (by omega)
          have hm0 : (0 : Int) ≤ (m : Int) := by omega
          have hm1 : (m : Int) < (n : Int) := by omega
          have hm2 : (m : Int) + 1 < (n : Int) := by omega
          have hm3 : (0 : Int) ≤ (m : Int) + 1 := by omega
          obtain ⟨z, hz⟩ : ∃ z, cf (g' (m + 1)) (g' m) = z := ⟨_, rfl⟩
          rw [hz] at hCF
          have HZ := Lib.hid hz
          clear hz
          by_cases hlz : z < 0
          · go_wp2
            refine wp_region_later (by kernel_rfl) (by kernel_rfl) (fun hlx => ?_)
            repeat (go_big_quiet_step ((go_at_fn g; exact Later.call (hCF.out _ (Later.below _)))))
            refine wpQuiet_nil ?_
            clear hlx
            intro w3 hbw3
            obtain ⟨hzw3, hcw3, hfw3⟩ := bfacts hbw3; (try simp at hzw3 hcw3 hfw3); (try (have : w.heap.size < w3.heap.size := by omega)); (try (have : w.heap.size + 1 < w3.heap.size := by omega)); (try (have : w.heap.size + 1 + 1 < w3.heap.size := by omega)); (try (have : w.heap.size + 1 + 1 + 1 < w3.heap.size := by omega))
            have e0 := fun q => hcw3 b q hbl
            have hblw3 : b < w3.heap.size := by omega
            have hfz3 : ∀ q, w3.frozen? ⟨b, q, none⟩ = false := fun q => (hfw3 b q hbl).trans (hfz q)
            have c0' := (e0 _).trans c0
            have d0' := (e0 _).trans d0
            clear c0 d0 hfz e0 hcw3 hfw3
            go_wp2
            have hwm : IntKind.i64.wrap (m : Int) = (m : Int) := by rw [IntKind.wrap_i64]; omega
            go_region
            go_wp2
            go_roundw
            case rel =>
              refine ⟨m, swpF g' m, by go_num, by omega, ?_, ?_, ?_, ?_⟩
              · rw [← HQ.out.1]
                show _ = insI (ltCIn cf) (m + 1) g'
                rw [insI, if_pos (by simp only [ltCIn]; rw [HZ.out]; exact decide_eq_true hlz)]
              · refine Own.congr (Own.drew (putIn (i := m) (g' (m + 1)) (putIn (i := m + 1) (g' m) (HQ.out.2.1.below hbw3)))) (fun a j' _ _ => ?_)
                by_cases h1 : a = m
                · subst h1; simp [swpF]
                · by_cases h2 : a = m + 1
                  · subst h2; simp [swpF]
                  · simp [swpF, h1, h2]
              · exact Kept.drew (putKeptIn (i := m) (g' (m + 1)) (putKeptIn (i := m + 1) (g' m) (HQ.out.2.2.1.laterB hbw3) (by omega)) (by omega))
              · intro q hq
                have h := HQ.out.2.2.2
                simp only [swpF]
                split
                · exact h _ (by omega)
                · split
                  · exact h _ (by omega)
                  · exact h _ hq
            case measure => simp [intOf]
          · have hlz2 : decide (z < 0) = false := decide_eq_false hlz
            have HE : Hid (g' = insO (ltCIn cf) f (i + 1)) := by
              show _ = _
              rw [← HQ.out.1, insI, if_neg (by simp only [ltCIn]; rw [HZ.out, hlz2]; simp)]
            go_wp2
            refine wp_region_later (by kernel_rfl) (by kernel_rfl) (fun hlx => ?_)
            repeat (go_big_quiet_step ((go_at_fn g; exact Later.call (hCF.out _ (Later.below _)))))
            refine wpQuiet_nil ?_
            clear hlx
            intro w3 hbw3
            obtain ⟨hzw3, hcw3, hfw3⟩ := bfacts hbw3; (try simp at hzw3 hcw3 hfw3); (try (have : w.heap.size < w3.heap.size := by omega)); (try (have : w.heap.size + 1 < w3.heap.size := by omega)); (try (have : w.heap.size + 1 + 1 < w3.heap.size := by omega)); (try (have : w.heap.size + 1 + 1 + 1 < w3.heap.size := by omega))
            go_wp2
            go_roundw
            case rel => exact ⟨i + 1, by go_num, by omega, .inl (by omega), by have h := HQ.out; have e := HE.out; subst e; exact ⟨h.2.1.below hbw3, h.2.2.1.laterB hbw3, h.2.2.2⟩⟩
            case measure => simp [intOf]; omega
    · have hltz : ¬ (i : Int) < (n : Int) := by omega
      have HE : Hid (Own wr lo 1 (some ⟨b, 0, none⟩) n (fun i _ => .int .i64 (insO (ltCIn cf) f n i))) := by
        show Own _ _ _ _ _ _
        rcases hin with h | h
        · obtain rfl : i = n := by omega
          exact HR.out.1
        · subst h
          rcases (show n = 0 ∨ n = 1 by omega) with rfl | rfl
          · intro h0; exact absurd h0 (by omega)
          · exact HR.out.1
      go_wp2
      go_end0
      exact ⟨rfl, HE.out, HR.out.2.1⟩
theorem stableIn_any (b n c lo : Nat) (f : Nat → Int) (ok : Int → Prop) (cf : Int → Int → Int) (g : Nat) (lb : Array Value) (w : World) (hO : Own w lo 1 (some ⟨b, 0, none⟩) n (fun i _ => .int .i64 (f i))) (hn : n < 20)
    (hok : ∀ i, i < n → ok (f i)) (eg : ∀ args w, (callFunc g args).run Try.prog w = .ok (.enter g args) w)
    (hp : ∀ (x y : Int) W, ok x → ok y → Kept w W (some ⟨b, 0, none⟩) n → Calls Try.prog g (#[.int .i64 x, .int .i64 y] ++ lb) W fun e w' => e = .returned (.int .i64 (cf x y)) ∧ Below W.heap.size W w') :
    Calls Try.prog 105 #[.slice (some ⟨b, 0, none⟩) n c, .int .i64 n, .func (.func g) #[] lb] w
    fun e w' => e = .returned (.tuple #[]) ∧ Own w' lo 1 (some ⟨b, 0, none⟩) n (fun i _ => .int .i64 (insO (ltCIn cf) f n i)) ∧ Kept w w' (some ⟨b, 0, none⟩) n := by
  have hi := Lib.hid (insSortIn_any b n c lo f ok cf g lb w hO (by omega) hok eg hp)
  clear hO hok eg hp
  have h20 : ¬ (20 : Int) ≤ (n : Int) := by omega
  have h21 : ¬ (20 : Int) < (n : Int) := by omega
  go_enter Try.func105, Try.ntmps105
  go_wp2
  go_loopw [7, 8] (fun v7 v8 wr => v7 = .int .i64 0 ∧ v8 = .int .i64 20 ∧ wr = w) (fun _ _ _ => 0)
  case atStart => exact ⟨rfl, rfl, rfl⟩
  case round =>
    obtain ⟨rfl, rfl, rfl⟩ := hrel
    go_wp2_with fail
    refine hi.out.mono ?_
    rintro e w1 ⟨rfl, hO1, hk1⟩
    have HO1 := Lib.hid hO1
    have HK1 := Lib.hid hk1
    clear hO1 hk1
    go_wp2
    go_loopw [6] (fun v6 wr => v6 = .int .i64 20 ∧ wr = w1) (fun _ _ => 0)
    case atStart => exact ⟨rfl, rfl⟩
    case round =>
      rename World => wq
      obtain ⟨rfl, rfl⟩ := hrel
      go_wp2
      go_end0
      exact ⟨rfl, HO1.out, HK1.out⟩
theorem sortIn_any (b n c lo : Nat) (f : Nat → Int) (ok : Int → Prop) (cf : Int → Int → Int) (g : Nat) (lb : Array Value) (w : World) (hO : Own w lo 1 (some ⟨b, 0, none⟩) n (fun i _ => .int .i64 (f i))) (hn : n < 20)
    (hok : ∀ i, i < n → ok (f i)) (eg : ∀ args w, (callFunc g args).run Try.prog w = .ok (.enter g args) w)
    (hp : ∀ (x y : Int) W, ok x → ok y → Kept w W (some ⟨b, 0, none⟩) n → Calls Try.prog g (#[.int .i64 x, .int .i64 y] ++ lb) W fun e w' => e = .returned (.int .i64 (cf x y)) ∧ Below W.heap.size W w') :
    Calls Try.prog 95 #[.slice (some ⟨b, 0, none⟩) n c, .func (.func g) #[] lb] w
    fun e w' => e = .returned (.tuple #[]) ∧ Own w' lo 1 (some ⟨b, 0, none⟩) n (fun i _ => .int .i64 (insO (ltCIn cf) f n i)) ∧ Kept w w' (some ⟨b, 0, none⟩) n := by
  have hi := Lib.hid (stableIn_any b n c lo f ok cf g lb w hO hn hok eg hp)
  clear hO hok eg hp
  go_enter Try.func95, Try.ntmps95
  go_wp2_with fail
  refine hi.out.mono ?_
  rintro e w1 ⟨rfl, hO1, hk1⟩
  have HO1 := Lib.hid hO1
  have HK1 := Lib.hid hk1
  clear hO1 hk1
  go_wp2
  go_end0
  exact ⟨rfl, HO1.out, HK1.out⟩
end Go.Proofs.Ytfecepjdjikenaa
