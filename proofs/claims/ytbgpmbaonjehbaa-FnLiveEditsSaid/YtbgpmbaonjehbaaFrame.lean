/- The frame of a law's row: the arguments read as before, the result is true; how arguments made of integers are opened. -/
import Derived.Test.YtbgpmbaonjehbaaRows
import Derived.Test.YtbgpmbaonjehbaaLeaf
import Derived.ProofKit
import Derived.OpenShut
import Derived.Below
import Derived.Deep.Slices
import Derived.WideKeyArgs
namespace Go.Proofs.Ytbgpmbaonjehbaa
open Go.ChangeShapes Go.WideShapes Go.ChangeAt Go.RowKit Go.Deep

section
variable {H : Type} {enc : TypeId × Value → H} {P : Program}
theorem trodAll_stays (hl : laidOutB P = true) {W W' : World} {sp : Nat → Bool} : ∀ {ts : List TypeId} {vs : List Value} {ds : List (DataW H)} {ps : List MemPlace},
    (∀ t ∈ ts, P.readableRec t = true ∧ t < P.types.size) → DataW.TrodAll enc P W 0 (fun _ => true) true ts vs ds ps → (∀ p ∈ ps, W.sameAt W' p) → (∀ p ∈ ps, sp p.block = true) →
    DataW.TrodAll enc P W' 0 sp true ts vs ds ps
  | [], [], [], _, _, h, _, _ => h
  | t :: ts, v :: vs, d :: ds, _, hts, ⟨p, q, h1, h2, hp⟩, hs, hsp => by
    subst hp
    exact ⟨p, q, WideElems.Trod_stays hl (hts t (by simp)).1 (hts t (by simp)).2 h1 (fun x hx => hs x (by simp [hx])) (fun x hx => hsp x (by simp [hx])),
      trodAll_stays hl (fun t' h' => hts t' (by simp [h'])) h2 (fun x hx => hs x (by simp [hx])) (fun x hx => hsp x (by simp [hx])), rfl⟩
  | [], [], _ :: _, _, _, h, _, _ => h.elim
  | [], _ :: _, _, _, _, h, _, _ => by cases ‹List (DataW H)› <;> exact h.elim
  | _ :: _, [], _, _, _, h, _, _ => by cases ‹List (DataW H)› <;> exact h.elim
  | _ :: _, _ :: _, [], _, _, h, _, _ => h.elim

/-- The row's last step: the call returned true and nothing that was there has changed. -/
theorem law_post {f : Func} {s : ChangeSpec} {W W' : World} {args : Array Value} {ds gs : List (DataW H)} {before : List MemPlace} {B : TypeId}
    (hl : laidOutB P = true) (hts0 : (f.params.toList.all fun t => P.readableRec t && decide (t < P.types.size)) = true) (hv : s.vars = []) (hr : f.resultTypes = #[B]) (hB : P.underlying B = some .bool)
    (hW : DataW.Whole enc P f.params.toList s.vars false W args.toList ds gs before) (hspec : s.fn H (ds ++ gs) = { results := [.lit (.bool true)], args := ds })
    (hb : Below W.heap.size W W') : s.post enc P f false true false false W args (.bool true) W' := by
  have hts : ∀ t ∈ f.params.toList, P.readableRec t = true ∧ t < P.types.size := fun t ht => by simpa using List.all_eq_true.1 hts0 t ht
  have hlt : ∀ p ∈ before, p.block < W.heap.size := fun p hp => hW.lt p hp
  have hW0 := hW
  obtain ⟨p, q, hA, hV, rfl, hfz, hnd⟩ := hW
  have hq : q = [] ∧ gs = [] := by
    rw [hv] at hV
    cases gs with
    | nil => exact ⟨hV, rfl⟩
    | cons a b => exact hV.elim
  obtain ⟨rfl, rfl⟩ := hq
  have hargs := trodAll_stays (sp := fun b => decide (b < W.heap.size)) hl hts hA (fun x hx => hb.same (hlt x (by simp [hx]))) (fun x hx => by simpa using hlt x (by simp [hx]))
  refine ⟨ds, [], p ++ [], [], p, [], hW0, ?_, ?_, ?_, World.keptBut_mono (fun x hx => ⟨hx, .inr (.inl (by simpa using hx))⟩) (hb.frame (· ∈ p ++ [])), fun h => by cases h⟩
  · rw [hspec, hr]
    exact trodAll_mk1 (shut_bool hB _)
  · rw [hspec]
    exact hargs
  · rw [hspec, hv]
    rfl

/-- every reading of the type t consists of k integers -/
def FlatInt (P : Program) (t : TypeId) (k : Nat) : Prop :=
  ∀ {H : Type} (enc : TypeId × Value → H) (w : World) (base : Nat) (spare : Nat → Bool) (held : Bool) (fuel : Nat) (cs : List Value) (x : DataW H × List MemPlace), DataW.trod enc P w base spare held fuel t cs = some x →
    cs.length = k ∧ ∀ j, j < k → ∃ n : Int, cs[j]? = some (.int .i64 n) ∧ (Lit.int .i64 n).wf = true
theorem flat_int {t : TypeId} (h : P.underlying t = some (.int .i64)) : FlatInt P t 1 := by
  intro H enc w base spare held fuel cs x hx
  obtain ⟨n, rfl, _, hw⟩ := DataW.trod_int h hx
  refine ⟨rfl, fun j hj => ⟨n, ?_, hw⟩⟩
  obtain rfl : j = 0 := by omega
  rfl
theorem flat_struct {t : TypeId} {fs : Array Field} {k : Nat} (ok : List (TypeId × Nat)) (h : P.underlying t = some (.struct fs)) (hk : P.cellsOf t = k)
    (hc : ((List.range k).all fun j => fs.toList.any fun f => decide (f.offset ≤ j) && decide (j < f.offset + P.cellsOf f.type) && ok.any fun tc => decide (tc.1 = f.type) && decide (tc.2 = P.cellsOf f.type)) = true)
    (hok : ∀ tc ∈ ok, FlatInt P tc.1 tc.2) : FlatInt P t k := by
  intro H enc w base spare held fuel cs x hx
  obtain ⟨xs, n, _, _, hlen, hxl, hf⟩ := DataW.trod_struct h hx
  refine ⟨hlen.trans hk, fun j hj => ?_⟩
  have h0 := List.all_eq_true.1 hc j (by simpa using hj)
  obtain ⟨f, hfm, h1⟩ := List.any_eq_true.1 h0
  simp only [Bool.and_eq_true, decide_eq_true_eq] at h1
  obtain ⟨⟨h1, h2⟩, h3⟩ := h1
  obtain ⟨tc, htc, h4⟩ := List.any_eq_true.1 h3
  simp only [Bool.and_eq_true, decide_eq_true_eq] at h4
  have hfl : FlatInt P tc.1 tc.2 := hok tc htc
  rw [h4.1, h4.2] at hfl
  obtain ⟨i, hi, hfi⟩ := List.getElem_of_mem hfm
  have hi' : fs[i]? = some f := by
    rw [← hfi]; simp at hi; simp [hi]
  have hlt : i < xs.length := by rw [hxl]; simpa using hi
  have h3 := hf i f hi'
  rw [List.getElem?_eq_getElem hlt] at h3
  obtain ⟨_, h4⟩ := hfl _ _ _ _ _ _ _ _ h3
  obtain ⟨m, hm, hw⟩ := h4 (j - f.offset) (by omega)
  refine ⟨m, ?_, hw⟩
  rw [List.getElem?_take_of_lt (by omega), List.getElem?_drop] at hm
  rwa [show f.offset + (j - f.offset) = j from by omega] at hm
theorem flat_array {t e : TypeId} {n k : Nat} (h : P.underlying t = some (.array n e)) (hk : P.cellsOf t = n * k) (he : P.cellsOf e = k) (hfe : FlatInt P e k) : FlatInt P t (n * k) := by
  intro H enc w base spare held fuel cs x hx
  cases fuel with
  | zero => simp [DataW.trod] at hx
  | succ m =>
    have hx0 := hx
    unfold DataW.trod at hx
    rw [h] at hx
    simp only [he, hk] at hx
    split at hx
    · rename_i hl
      refine ⟨hl, fun j hj => ?_⟩
      obtain ⟨ys, hy, _⟩ := Option.map_eq_some_iff.1 hx
      have hkp : 0 < k := by
        rcases Nat.eq_zero_or_pos k with h0 | h0
        · subst h0; simp at hj
        · exact h0
      have hjn : j / k < n := (Nat.div_lt_iff_lt_mul hkp).2 hj
      have hyl : ys.length = n := by simpa using mapM_some_length hy
      have h3 := mapM_some_get hy (j / k) (j / k) (by simp [hjn])
      rw [List.getElem?_eq_getElem (by omega)] at h3
      obtain ⟨_, h4⟩ := hfe _ _ _ _ _ _ _ _ h3
      obtain ⟨m', hm', hw⟩ := h4 (j % k) (Nat.mod_lt _ hkp)
      refine ⟨m', ?_, hw⟩
      rw [List.getElem?_take_of_lt (Nat.mod_lt _ hkp), List.getElem?_drop] at hm'
      rwa [Nat.div_add_mod' j k] at hm'
    · cases hx

/-- an aggregate by value: its cells are k integers -/
theorem open_flat {t : TypeId} {fs : Array Field} {k : Nat} {W : World} {base : Nat} {r : Reach} {b0 : Nat} {sp : Nat → Bool} {held : Bool} {v : Value} {d : DataW H} {p : List MemPlace}
    (hs : P.underlying t = some (.struct fs)) (hfl : FlatInt P t k) (hv : Value.okWide P W r b0 t v) (h : DataW.Trod enc P W base sp held t v d p) :
    ∃ ns : List Int, ns.length = k ∧ v = .agg (ns.map (Value.int .i64)).toArray ∧ ∀ n ∈ ns, (Lit.int .i64 n).wf = true := by
  obtain ⟨cs, rfl, _⟩ := okWide_struct hs hv
  obtain ⟨fuel, hf⟩ := h
  obtain ⟨hlen, hall⟩ := hfl _ _ _ _ _ _ _ _ hf
  simp only [Value.cells] at hlen hall
  obtain ⟨l⟩ := cs
  clear hf hv hfl hs
  simp only at hlen hall
  suffices hh : ∀ (l : List Value) (k : Nat), l.length = k → (∀ j, j < k → ∃ n : Int, l[j]? = some (.int .i64 n) ∧ (Lit.int .i64 n).wf = true) → ∃ ns : List Int, ns.length = k ∧ l = ns.map (Value.int .i64) ∧ ∀ n ∈ ns, (Lit.int .i64 n).wf = true by
    obtain ⟨ns, h1, h2, h3⟩ := hh l k hlen hall
    exact ⟨ns, h1, by rw [h2], h3⟩
  intro l
  induction l with
  | nil => intro k hk _; exact ⟨[], by simpa using hk, rfl, by simp⟩
  | cons a l ih =>
    intro k hk hj
    obtain ⟨n, hn, hw⟩ := hj 0 (by simp at hk; omega)
    obtain ⟨ns, h1, h2, h3⟩ := ih (k - 1) (by simp at hk; omega) (fun j hj' => by
      obtain ⟨m, hm, hw'⟩ := hj (j + 1) (by omega)
      exact ⟨m, by simpa using hm, hw'⟩)
    refine ⟨n :: ns, by simp at hk ⊢; omega, ?_, ?_⟩
    · simp at hn
      rw [hn, h2]; rfl
    · intro m hm
      rcases List.mem_cons.1 hm with rfl | hm
      · exact hw
      · exact h3 m hm

/-- the integer in a cell -/
def intAt (w : World) (a : Option Addr) (n : Nat) : Int :=
  match a with
  | none => 0
  | some a => match w.cell? (a.add n) with
    | some (.int _ m) => m
    | _ => 0
theorem block_lt_of_cell {w : World} {a : Addr} {v : Value} (h : w.cell? a = some v) : a.block < w.heap.size := by
  rcases Nat.lt_or_ge a.block w.heap.size with h1 | h1
  · exact h1
  · simp [World.cell?, Array.getElem?_eq_none h1] at h

theorem open_flat_slice {t e : TypeId} {k : Nat} {W : World} {r : Reach} {b0 : Nat} {sp : Nat → Bool} {held : Bool} {v : Value} {d : DataW H} {p : List MemPlace}
    (hs : P.underlying t = some (.slice e)) (he : P.cellsOf e = k) (hk : 0 < k) (hfl : FlatInt P e k) (hv : Value.okWide P W r b0 t v) (h : DataW.Trod enc P W 0 sp held t v d p) :
    ∃ (A : Option Addr) (n c : Nat), v = .slice A n c ∧ n ≤ c ∧ c ≤ maxLen ∧ Sl W k A n (fun i j => .int .i64 (intAt W A (i * k + j))) ∧ (∀ i j, i < n → j < k → (Lit.int .i64 (intAt W A (i * k + j))).wf = true) := by
  obtain ⟨A, n, c, rfl⟩ := okWide_slice hs hv
  obtain ⟨fuel, hf⟩ := h
  rcases open_slice hs hf with ⟨h0, _⟩ | ⟨a, n', c', m, q, D, Pl, h0, _, hl, hm, hmm, _, hel⟩
  · have : A = none ∧ n = 0 ∧ c = 0 := by simpa [Value.cells] using h0
    obtain ⟨rfl, rfl, rfl⟩ := this
    exact ⟨none, 0, 0, rfl, Nat.le_refl _, Nat.zero_le _, fun h => absurd h (by omega), fun i j h => absurd h (by omega)⟩
  · have : A = some a ∧ n = n' ∧ c = c' := by simpa [Value.cells] using h0
    obtain ⟨rfl, rfl, rfl⟩ := this
    have hnm : n ≤ m := by rw [hmm]; split <;> omega
    have key : ∀ i j, i < n → j < k → ∃ z : Int, W.cell? (a.add (i * k + j)) = some (.int .i64 z) ∧ (Lit.int .i64 z).wf = true := by
      intro i j hi hj
      obtain ⟨cs', hc, ht⟩ := hel i (by omega)
      rw [he] at hc
      obtain ⟨_, hlen, hget⟩ := World.cells?_some hc
      obtain ⟨_, hall⟩ := hfl _ _ _ _ _ _ _ _ ht
      obtain ⟨z, hz, hw⟩ := hall j hj
      refine ⟨z, ?_, hw⟩
      rw [← Go.Deep.add_add, hget j hj, hz]
    refine ⟨some a, n, c, rfl, hl, hm, ?_, ?_⟩
    · intro hn
      obtain ⟨z0, hz0, _⟩ := key 0 0 hn hk
      obtain ⟨b, off, spot⟩ := a
      have hspot : spot = none := by simpa [Addr.add] using World.cell?_spot hz0
      subst hspot
      refine ⟨b, off, rfl, by simpa [Addr.add] using block_lt_of_cell hz0, fun i j hi hj => ?_⟩
      obtain ⟨z, hz, _⟩ := key i j hi hj
      have e1 : (⟨b, off, none⟩ : Addr).add (i * k + j) = ⟨b, off + i * k + j, none⟩ := by rw [Nat.add_assoc]; exact Go.WideShapes.add_plain _ _ _
      simp only [intAt, hz]
      rw [← e1, hz]
    · intro i j hi hj
      obtain ⟨z, hz, hw⟩ := key i j hi hj
      simp only [intAt, hz]
      exact hw
end
theorem own : ownKnob Try.prog.godebug = none := by kernel_rfl
theorem laidOut : laidOutB Try.prog = true := by kernel_rfl
end Go.Proofs.Ytbgpmbaonjehbaa
