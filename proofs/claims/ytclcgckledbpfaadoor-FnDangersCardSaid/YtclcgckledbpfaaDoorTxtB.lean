/- Contracts: the text of a danger: the program's and the reference's; the law on it. -/
import Derived.Test.YtclcgckledbpfaaDoorTxtA
import Derived.Test.YtclcgckledbpfaaDoorDangerB
import Derived.Deep.DeepCutAuto
import Derived.Deep.RegionLaw
import Derived.Deep.RegionHeld3
namespace Go.Proofs.YtclcgckledbpfaaDoor
open Go.RowKit
def kindS (k : Int) : List UInt8 := if k = 0 then [119, 114, 101, 99, 107] else if k = 1 then [114, 111, 99, 107] else [99, 97, 98, 108, 101]
def qualS (q : Int) : List UInt8 := if q = 0 then [] else if q = 1 then [97, 116, 32, 108, 101, 97, 115, 116, 32] else [112, 101, 114, 104, 97, 112, 115, 32]
def headS (s : DG) : List UInt8 := kindS s.kind ++ [32] ++ Lib.itoa s.id ++ [32, 97, 116, 32] ++ Lib.itoa s.x ++ [44] ++ Lib.itoa s.y ++ [58, 32] ++ qualS s.quality
def dgS (s : DG) : List UInt8 := headS s ++ Lib.itoa s.least ++ [32, 99, 109]
def dgO (s : DG) : List UInt8 := if okD s = true then dgS s else []
theorem itoa_len {n : Int} (h0 : -1000000 ≤ n) (h1 : n ≤ 1000000) : (Lib.itoa n).length ≤ 21 := Lib.itoa_length_le n (by omega) (by omega)
theorem index_kind (k : Int) (h : k = 0 ∨ k = 1 ∨ k = 2) (w : World) : (Instr.index 58 (.agg #[.string ⟨#[119, 114, 101, 99, 107]⟩, .string ⟨#[114, 111, 99, 107]⟩, .string ⟨#[99, 97, 98, 108, 101]⟩]) (.int .i64 k)).run Tryd.prog w = .ok (.string ⟨(kindS k).toArray⟩) w := by
  rcases h with rfl | rfl | rfl <;> kernel_rfl
theorem index_qual (k : Int) (h : k = 0 ∨ k = 1 ∨ k = 2) (w : World) : (Instr.index 58 (.agg #[.string ⟨#[]⟩, .string ⟨#[97, 116, 32, 108, 101, 97, 115, 116, 32]⟩, .string ⟨#[112, 101, 114, 104, 97, 112, 115, 32]⟩]) (.int .i64 k)).run Tryd.prog w = .ok (.string ⟨(qualS k).toArray⟩) w := by
  rcases h with rfl | rfl | rfl <;> kernel_rfl
theorem kindS_len (k : Int) : (kindS k).length ≤ 5 := by unfold kindS; split <;> (try split) <;> decide
theorem qualS_len (k : Int) : (qualS k).length ≤ 9 := by unfold qualS; split <;> (try split) <;> decide
set_option maxRecDepth 100000 in
set_option maxHeartbeats 4000000 in
theorem DangerText_yes (s : DG) (w : World) (hT : TabB w.heap.size w) (h : okD s = true) : Calls Tryd.prog 7 #[.agg #[.int .i64 s.id, .int .i64 s.kind, .int .i64 s.x, .int .i64 s.y, .int .i64 s.least, .int .i64 s.quality, .int .i64 s.seen]] w fun e w' => e = .returned (.tuple #[.string ⟨(dgS s).toArray⟩, .bool true]) ∧ Below w.heap.size w w' := by
  obtain ⟨⟨_, _⟩, ⟨_, _⟩, ⟨_, _⟩, ⟨_, _⟩, _⟩ := okD_bd h
  obtain ⟨⟨_, _⟩, ⟨_, _⟩⟩ := spotB_iff.1 (okD_spot h)
  have hi := fun W => IsDanger_any s W
  rw [h] at hi
  have HI := Lib.hid hi
  have ik := fun W => index_kind s.kind (by omega) W
  have iq := fun W => index_qual s.quality (by omega) W
  have HN := Lib.hid (fun n W (hb : Below w.heap.size w W) (h0 : -1000000 ≤ n) (h1 : n ≤ 1000000) => Itoa_any n w.heap.size W (hT.on hb) h0 h1)
  have HD : Hid (dgS s = kindS s.kind ++ [32] ++ Lib.itoa s.id ++ [32, 97, 116, 32] ++ Lib.itoa s.x ++ [44] ++ Lib.itoa s.y ++ [58, 32] ++ qualS s.quality ++ Lib.itoa s.least ++ [32, 99, 109]) := rfl
  have l1 := kindS_len s.kind
  have l2 := qualS_len s.quality
  have l3 := itoa_len (n := s.id) (by omega) (by omega)
  have l4 := itoa_len (n := s.x) (by omega) (by omega)
  have l5 := itoa_len (n := s.y) (by omega) (by omega)
  have l6 := itoa_len (n := s.least) (by omega) (by omega)
  have H1 := Lib.hid (fun W (hb : Below w.heap.size w W) => HN.out s.id W hb (by omega) (by omega))
  have H2 := Lib.hid (fun W (hb : Below w.heap.size w W) => HN.out s.x W hb (by omega) (by omega))
  have H3 := Lib.hid (fun W (hb : Below w.heap.size w W) => HN.out s.y W hb (by omega) (by omega))
  have H4 := Lib.hid (fun W (hb : Below w.heap.size w W) => HN.out s.least W hb (by omega) (by omega))
  generalize kindS s.kind = K at ik HD l1
  generalize qualS s.quality = Q at iq HD l2
  generalize Lib.itoa s.id = S1 at H1 HD l3
  generalize Lib.itoa s.x = S2 at H2 HD l4
  generalize Lib.itoa s.y = S3 at H3 HD l5
  generalize Lib.itoa s.least = S4 at H4 HD l6
  clear h hi HN
  have n1 : ¬ 9223372036854775807 < K.length + 1 := by omega
  clear hT
  go_enter Tryd.func7, Tryd.ntmps7
  go_wp2_with fail
  refine (HI.out _).mono ?_
  rintro e w1 ⟨rfl, hbw1⟩
  obtain ⟨hzw1, hcw1, hfw1⟩ := bfacts hbw1; (try simp at hzw1 hcw1 hfw1); (try (have : w.heap.size < w1.heap.size := by omega)); (try (have : w.heap.size + 1 < w1.heap.size := by omega)); (try (have : w.heap.size + 1 + 1 < w1.heap.size := by omega)); (try (have : w.heap.size + 1 + 1 + 1 < w1.heap.size := by omega))
  have HB1 := Lib.hid (show Below w.heap.size w w1 from by repeat' (first | (with_reducible exact Below.refl _ _) | (with_reducible assumption) | (with_reducible refine Below.alloc ?_ ?_ _) | (with_reducible refine Below.drew ?_) | (with_reducible refine Below.setCell ?_ ?_ _) | (with_reducible refine Below.stepB (by assumption) ?_ ?_) | go_size))
  have G1 := Lib.hid (fun (x : Later w1) => H1.out x.w (Later.old x HB1.out HB1.out.size))
  have G2 := Lib.hid (fun (x : Later w1) => H2.out x.w (Later.old x HB1.out HB1.out.size))
  have G3 := Lib.hid (fun (x : Later w1) => H3.out x.w (Later.old x HB1.out HB1.out.size))
  have G4 := Lib.hid (fun (x : Later w1) => H4.out x.w (Later.old x HB1.out HB1.out.size))
  go_wp2_with fail
  refine wp_region_later (by kernel_rfl) (by kernel_rfl) (fun hlx => ?_)
  repeat (go_big_quiet_step (first | (go_at_call 29; with_reducible exact Later.call (G1.out _)) | (go_at_call 29; with_reducible exact Later.call (G2.out _)) | (go_at_call 29; with_reducible exact Later.call (G3.out _)) | (go_at_call 29; with_reducible exact Later.call (G4.out _))))
  refine wpQuiet_nil ?_
  clear hlx
  intro w2 hbw2
  obtain ⟨hzw2, hcw2, hfw2⟩ := bfacts hbw2; (try simp at hzw2 hcw2 hfw2); (try (have : w.heap.size < w2.heap.size := by omega)); (try (have : w.heap.size + 1 < w2.heap.size := by omega)); (try (have : w.heap.size + 1 + 1 < w2.heap.size := by omega)); (try (have : w.heap.size + 1 + 1 + 1 < w2.heap.size := by omega))
  go_wp2
  go_ret2
  refine ⟨?_, by repeat' (first | (with_reducible exact Below.refl _ _) | (with_reducible assumption) | (with_reducible refine Below.alloc ?_ ?_ _) | (with_reducible refine Below.drew ?_) | (with_reducible refine Below.setCell ?_ ?_ _) | (with_reducible refine Below.stepB (by assumption) ?_ ?_) | go_size)⟩
  rw [HD.out]
  simp [ba_app]
theorem DangerText_no (s : DG) (w : World) (h : okD s = false) : Calls Tryd.prog 7 #[.agg #[.int .i64 s.id, .int .i64 s.kind, .int .i64 s.x, .int .i64 s.y, .int .i64 s.least, .int .i64 s.quality, .int .i64 s.seen]] w fun e w' => e = .returned (.tuple #[.string ⟨#[]⟩, .bool false]) ∧ Below w.heap.size w w' := by
  go_enter Tryd.func7, Tryd.ntmps7
  go_wp2_with (first | (go_at_call 12; refine (IsDanger_any s _).mono ?_; rintro e w1 ⟨rfl, hbw1⟩; obtain ⟨hzw1, hcw1, hfw1⟩ := bfacts hbw1; (try simp at hzw1 hcw1 hfw1); (try (have : w.heap.size < w1.heap.size := by omega)); (try (have : w.heap.size + 1 < w1.heap.size := by omega)); (try (have : w.heap.size + 1 + 1 < w1.heap.size := by omega)); (try (have : w.heap.size + 1 + 1 + 1 < w1.heap.size := by omega))))
  go_returns
  exact ⟨rfl, by repeat' (first | (with_reducible exact Below.refl _ _) | (with_reducible assumption) | (with_reducible refine Below.alloc ?_ ?_ _) | (with_reducible refine Below.drew ?_) | (with_reducible refine Below.setCell ?_ ?_ _) | (with_reducible refine Below.stepB (by assumption) ?_ ?_) | go_size)⟩
theorem specText_no (s : DG) (w : World) (h : okD s = false) : Calls Tryd.prog 5 #[.agg #[.int .i64 s.id, .int .i64 s.kind, .int .i64 s.x, .int .i64 s.y, .int .i64 s.least, .int .i64 s.quality, .int .i64 s.seen]] w fun e w' => e = .returned (.tuple #[.string ⟨#[]⟩, .bool false]) ∧ Below w.heap.size w w' := by
  go_enter Tryd.func5, Tryd.ntmps5
  go_wp2_with (first | (go_at_call 26; refine (l17One_any s _).mono ?_; rintro e w1 ⟨rfl, hbw1⟩; obtain ⟨hzw1, hcw1, hfw1⟩ := bfacts hbw1; (try simp at hzw1 hcw1 hfw1); (try (have : w.heap.size < w1.heap.size := by omega)); (try (have : w.heap.size + 1 < w1.heap.size := by omega)); (try (have : w.heap.size + 1 + 1 < w1.heap.size := by omega)); (try (have : w.heap.size + 1 + 1 + 1 < w1.heap.size := by omega))))
  go_returns
  exact ⟨rfl, by repeat' (first | (with_reducible exact Below.refl _ _) | (with_reducible assumption) | (with_reducible refine Below.alloc ?_ ?_ _) | (with_reducible refine Below.drew ?_) | (with_reducible refine Below.setCell ?_ ?_ _) | (with_reducible refine Below.stepB (by assumption) ?_ ?_) | go_size)⟩
end Go.Proofs.YtclcgckledbpfaaDoor
