/- A region that draws its order, by what each operation keeps: no walk through the orders: each operation is run once. -/
import Derived.Test.YtclcgckledbpfaaDoorLeaf
import Derived.Orders
namespace Go.Proofs.YtclcgckledbpfaaDoor
theorem regAc {ops : Array Oper} (h : ((List.range ops.size).all fun i => match ops[i]? with | some o => o.guard.isNone && o.after.all fun e => decide (e.on < i) | none => true) = true) : (∀ (i : Nat) (o : Oper), ops[i]? = some o → ∀ e ∈ o.after, e.on < i) ∧ (∀ (i : Nat) (o : Oper), ops[i]? = some o → o.guard = none) := by
  have key : ∀ (i : Nat) (o : Oper), ops[i]? = some o → o.guard = none ∧ ∀ e ∈ o.after, e.on < i := by
    intro i o ho
    have hi : i < ops.size := by
      obtain ⟨h, _⟩ := Array.getElem?_eq_some_iff.1 ho
      exact h
    have h1 := (List.all_eq_true.1 h) i (List.mem_range.2 hi)
    rw [ho] at h1
    simp only [Bool.and_eq_true, Option.isNone_iff_eq_none] at h1
    exact ⟨h1.1, fun e he => by simpa using (Array.all_eq_true_iff_forall_mem.1 h1.2) e he⟩
  exact ⟨fun i o ho => (key i o ho).2, fun i o ho => (key i o ho).1⟩
theorem regReady {md : Region.Mode} {ops : Array Oper} {l : Array Bool} {i : Nat} (h : i ∈ Region.ready md ops l) : ∃ o, ops[i]? = some o ∧ i < ops.size ∧ l.getD i true = false ∧ ∀ e ∈ o.after, Region.binds md e = true → l.getD e.on false = true := by
  unfold Region.ready at h
  rw [List.mem_filter, List.mem_range, Bool.and_eq_true] at h
  obtain ⟨h0, h1, h2⟩ := h
  have ho : ops[i]? = some ops[i] := Array.getElem?_eq_getElem h0
  rw [ho] at h2
  refine ⟨_, ho, h0, by simpa using h1, fun e he hb => ?_⟩
  simp only [Option.map_some, Option.getD_some] at h2
  have h3 := (Array.all_eq_true_iff_forall_mem.1 h2) e he
  rw [hb] at h3
  simpa using h3
theorem regDone {md : Region.Mode} {ops : Array Oper} {l : Array Bool} (hl : l.size = ops.size) (hac : ∀ (i : Nat) (o : Oper), ops[i]? = some o → ∀ e ∈ o.after, e.on < i) (h : Region.ready md ops l = []) : ∀ i, i < ops.size → l.getD i false = true := by
  intro i
  induction i using Nat.strongRecOn with
  | _ i ih =>
    intro hi
    cases hc : l.getD i false with
    | true => rfl
    | false =>
    exfalso
    have ho : ops[i]? = some ops[i] := Array.getElem?_eq_getElem hi
    have hm : i ∈ Region.ready md ops l := by
      unfold Region.ready
      rw [List.mem_filter, List.mem_range, Bool.and_eq_true]
      refine ⟨hi, ?_, ?_⟩
      · have : l.getD i true = l.getD i false := by
          rw [Array.getD_eq_getD_getElem?, Array.getD_eq_getD_getElem?, Array.getElem?_eq_getElem (by omega)]
          rfl
        rw [this, hc]
        rfl
      · rw [ho]
        simp only [Option.map_some, Option.getD_some]
        rw [Array.all_eq_true_iff_forall_mem]
        intro e he
        rw [ih e.on (hac i _ ho e he) (by have := hac i _ ho e he; omega)]
        simp
    rw [h] at hm
    cases hm
theorem regCount {l : Array Bool} {i : Nat} (h : i < l.size) (hf : l.getD i true = false) : (l.setIfInBounds i true).toList.count false + 1 = l.toList.count false := by
  have hi : l.toList[i]'(by simpa using h) = false := by
    rw [Array.getD_eq_getD_getElem?, Array.getElem?_eq_getElem h] at hf
    simpa using hf
  rw [Array.toList_setIfInBounds, List.count_set (by simpa using h), hi]
  have hp : 0 < l.toList.count false := by
    rw [List.count_pos_iff, ← hi]
    exact List.getElem_mem _
  simp only [beq_self_eq_true, if_true]
  have : ((true == false) = true) = False := by simp
  simp only [this, if_false]
  omega
theorem regGet {l : Array Bool} {i : Nat} (j : Nat) (h : (l.setIfInBounds i true).getD j false = true) : j = i ∨ l.getD j false = true := by
  by_cases hji : j = i
  · exact Or.inl hji
  · right
    rw [Array.getD_eq_getD_getElem?, Array.getElem?_setIfInBounds_ne (fun e => hji e.symm)] at h
    rw [Array.getD_eq_getD_getElem?]
    exact h
theorem wpAny_inv {P : Program} {md : Region.Mode} {ops : Array Oper} {Q : Exit → Act → World → Prop} (I : (Nat → Bool) → Act → World → Prop)
    (hac : ∀ (i : Nat) (o : Oper), ops[i]? = some o → ∀ e ∈ o.after, e.on < i)
    (hg : ∀ (i : Nat) (o : Oper), ops[i]? = some o → o.guard = none)
    (hI : ∀ L L' a w, (∀ j, L' j = true → L j = true) → I L a w → I L' a w)
    (hs : ∀ (L : Nat → Bool) (a : Act) (w : World) (i : Nat) (o : Oper), I L a w → ops[i]? = some o → i < ops.size → L i = false → (∀ e ∈ o.after, Region.binds md e = true → L e.on = true) → Oper.wp P o a w (fun a' w' => I (fun j => L j || decide (j = i)) a' w') Q)
    (hd : ∀ L a w, I L a w → (∀ i, i < ops.size → L i = true) → Q .normal a w) :
    ∀ (fuel : Nat) (l : Array Bool) (a : Act) (w : World), l.size = ops.size → l.toList.count false ≤ fuel → I (fun j => l.getD j false) a w → wpAny P md ops Q fuel l a w := by
  intro fuel
  induction fuel with
  | zero =>
    intro l a w hl hc hi
    have hr : Region.ready md ops l = [] := by
      cases he : Region.ready md ops l with
      | nil => rfl
      | cons x xs =>
        obtain ⟨o, _, h2, h3, _⟩ := regReady (md := md) (ops := ops) (l := l) (i := x) (by rw [he]; exact List.mem_cons_self)
        have := regCount (l := l) (i := x) (by omega) h3
        omega
    exact ⟨hr, hd _ _ _ hi (regDone hl hac hr)⟩
  | succ fuel ih =>
    intro l a w hl hc hi
    refine ⟨fun hr => hd _ _ _ hi (regDone hl hac hr), fun i him => ?_⟩
    obtain ⟨o, ho, h2, h3, h4⟩ := regReady him
    have hcn := regCount (l := l) (i := i) (by omega) h3
    have hf : l.getD i false = false := by
      rw [Array.getD_eq_getD_getElem?, Array.getElem?_eq_getElem (by omega)] at h3 ⊢
      exact h3
    have hw := hs _ a w i o hi ho h2 hf h4
    have hgi := hg i o ho
    have hwn : Region.wanted o (yielded ops a.tmps) = true := by unfold Region.wanted; rw [hgi]
    unfold wpOp
    rw [ho]
    simp only
    rw [if_pos hwn]
    refine Or.inl (Oper.wp_mono (fun a' w' h => ih _ a' w' (by rw [Array.size_setIfInBounds]; exact hl) (by omega) ?_) hw)
    refine hI _ _ _ _ (fun j hj => ?_) h
    rcases regGet j hj with h | h
    · simp [h]
    · simp [h]
/-- The same, where each operation writes its own slot: F lays the slots into the frame, D names an operation's slot, V says what it must hold. -/
theorem wpRegion_slots {P : Program} {ops : Array Oper} {Q : Exit → Act → World → Prop} {id : Nat} {a : Act} {w : World} (F : (Nat → Value) → Act) (D : Nat → Nat) (V : Nat → Value → World → Prop) (S : World → Prop) (R : World → World → Prop) (g0 : Nat → Value)
    (hm : P.follows .mixedOrders = true)
    (hac : ∀ (i : Nat) (o : Oper), ops[i]? = some o → ∀ e ∈ o.after, e.on < i)
    (hg : ∀ (i : Nat) (o : Oper), ops[i]? = some o → o.guard = none)
    (ha : F g0 = a) (hS : S { w with drawn := w.drawn + 1 })
    (hD : ∀ i j, i < ops.size → j < ops.size → D i = D j → i = j)
    (hput : ∀ (i : Nat) (o : Oper) (g : Nat → Value) (v : Value), ops[i]? = some o → (F g).put o.dst v = F (fun k => if k = D i then v else g k))
    (hV : ∀ i v w w', V i v w → R w w' → V i v w')
    (hs : ∀ (i : Nat) (o : Oper) (g : Nat → Value) (w : World), ops[i]? = some o → S w → (∀ e ∈ o.after, Region.binds .any e = true → V e.on (g (D e.on)) w) → ∀ K : Act → World → Prop, (∀ v w', V i v w' → S w' → R w w' → K ((F g).put o.dst v) w') → Oper.wp P o (F g) w K Q)
    (hd : ∀ g w, S w → (∀ i, i < ops.size → V i (g (D i)) w) → Q .normal (F g) w) :
    (Code.region id ops true).wp P Q a w := by
  refine wp_region_any hm ?_
  refine wpAny_inv (fun L a w => ∃ g, a = F g ∧ S w ∧ ∀ i, i < ops.size → L i = true → V i (g (D i)) w) hac hg ?_ ?_ ?_ _ _ _ _ (by simp) (by simp [Array.toList_replicate]) ?_
  · rintro L L' a w hL ⟨g, rfl, h2, h3⟩
    exact ⟨g, rfl, h2, fun i h h' => h3 i h (hL i h')⟩
  · rintro L a w i o ⟨g, rfl, h2, h3⟩ ho hi hLi he
    refine hs i o g w ho h2 (fun e hee hb => h3 _ (by have := hac i o ho e hee; omega) (he e hee hb)) _ ?_
    intro v w' hv hS' hR
    refine ⟨_, hput i o g v ho, hS', fun j hj hjL => ?_⟩
    by_cases hji : j = i
    · subst hji
      simpa using hv
    · have hne : D j ≠ D i := fun e => hji (hD j i hj hi e)
      simp only [hne, if_false]
      refine hV _ _ _ _ (h3 j hj ?_) hR
      simpa [hji] using hjL
  · rintro L a w ⟨g, rfl, h2, h3⟩ hL
    exact hd g w h2 fun i hi => h3 i hi (hL i hi)
  · exact ⟨g0, ha.symm, hS, fun i hi h => absurd h (by simp [Array.getD_eq_getD_getElem?, hi])⟩
end Go.Proofs.YtclcgckledbpfaaDoor
