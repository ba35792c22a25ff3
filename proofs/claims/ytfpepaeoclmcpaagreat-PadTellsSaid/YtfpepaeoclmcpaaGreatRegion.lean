/- A law for regions that draw their order. -/
import Derived.Orders
import Derived.Below
import Derived.Test.YtfpepaeoclmcpaaGreatBase
import Derived.KernelRfl
namespace Go.Esc
open Go Go.RowKit

/-- Each edge points back. -/
def edgesBack (ops : Array Oper) : Bool := (List.range ops.size).all fun i => ((ops[i]?).map fun o => o.after.all fun e => !Region.binds .any e || decide (e.on < i)).getD true
/-- No two operations write one slot. -/
def dstsApart (ops : Array Oper) : Bool := (List.range ops.size).all fun i => (List.range ops.size).all fun j => i == j || (match (ops[i]?).bind (·.dst), (ops[j]?).bind (·.dst) with | some a, some b => a != b | _, _ => true)
/-- Is the slot written by an operation? -/
def isDst (ops : Array Oper) (t : Nat) : Bool := ops.any fun o => o.dst == some t
def slotOf (a : Act) (d : Option Tmp) : Value := match d with | some d => a.tmps.getD d undef | none => undef

section
variable {P : Program} {ops : Array Oper} {Q : Exit → Act → World → Prop}

theorem wpAny_inv (md : Region.Mode) (Inv : Array Bool → Act → World → Prop)
    (hstep : ∀ listed a w, Inv listed a w → ∀ i ∈ Region.ready md ops listed, wpOp P ops Q i (fun a' w' => Inv (listed.setIfInBounds i true) a' w') a w)
    (hend : ∀ listed a w, Inv listed a w → Region.ready md ops listed = [] → Q .normal a w)
    (hcount : ∀ listed a w, Inv listed a w → listed.size = ops.size) :
    ∀ (fuel : Nat) (listed : Array Bool) (a : Act) (w : World), Inv listed a w → (listed.toList.count false ≤ fuel) → wpAny P md ops Q fuel listed a w := by
  intro fuel
  induction fuel with
  | zero =>
    intro listed a w h hc
    have hr : Region.ready md ops listed = [] := by
      apply List.eq_nil_iff_forall_not_mem.2
      intro i hi
      simp only [Region.ready, List.mem_filter, List.mem_range, Bool.and_eq_true, Bool.not_eq_true'] at hi
      obtain ⟨h1, h2, _⟩ := hi
      have hs := hcount _ _ _ h
      have : listed.toList.count false > 0 := by
        apply List.count_pos_iff.2
        have hlt : i < listed.size := by omega
        simp [Array.getD_eq_getD_getElem?, Array.getElem?_eq_getElem hlt] at h2
        rw [← h2]; simp
      omega
    exact ⟨hr, hend _ _ _ h hr⟩
  | succ fuel ih =>
    intro listed a w h hc
    refine ⟨hend _ _ _ h, fun i hi => ?_⟩
    refine wpOp_mono ?_ (hstep _ _ _ h i hi)
    intro a' w' h'
    refine ih _ _ _ h' ?_
    simp only [Region.ready, List.mem_filter, List.mem_range, Bool.and_eq_true, Bool.not_eq_true'] at hi
    obtain ⟨h1, h2, _⟩ := hi
    have hs := hcount _ _ _ h
    have hlt : i < listed.size := by omega
    have hf : listed[i] = false := by
      simpa [Array.getD_eq_getD_getElem?, Array.getElem?_eq_getElem hlt] using h2
    have hset : (listed.setIfInBounds i true).toList = listed.toList.set i true := by simp
    rw [hset, List.count_set (by simpa using hlt)]
    have hf' : listed.toList[i]'(by simpa using hlt) = false := by simpa using hf
    rw [hf']
    have : listed.toList.count false > 0 := by
      apply List.count_pos_iff.2
      rw [← hf]; exact Array.getElem_mem_toList ..
    simp only [beq_self_eq_true, if_true, show (true == false) = false from rfl, Bool.false_eq_true, if_false]
    omega

theorem ready_nil (h : edgesBack ops = true) (listed : Array Bool) (hs : listed.size = ops.size) (hr : Region.ready .any ops listed = []) : ∀ j, j < ops.size → listed[j]? = some true := by
  intro j
  induction j using Nat.strongRecOn with
  | _ j ih =>
    intro hj
    have hlt : j < listed.size := by omega
    have hn : j ∉ Region.ready .any ops listed := by rw [hr]; simp
    rw [Array.getElem?_eq_getElem hlt]
    cases hl : listed[j] with
    | true => rfl
    | false =>
      exfalso
      apply hn
      simp only [Region.ready, List.mem_filter, List.mem_range, Bool.and_eq_true, Bool.not_eq_true']
      refine ⟨hj, by simp [Array.getD_eq_getD_getElem?, Array.getElem?_eq_getElem hlt, hl], ?_⟩
      simp only [edgesBack, List.all_eq_true, List.mem_range] at h
      have := h j hj
      rw [Array.getElem?_eq_getElem hj] at this ⊢
      simp only [Option.map_some, Option.getD_some, Array.all_eq_true] at this ⊢
      intro k hk
      have := this k hk
      simp only [Bool.or_eq_true, Bool.not_eq_true', decide_eq_true_eq] at this ⊢
      rcases this with hb | hb
      · exact .inl hb
      · right
        have h3 := ih _ hb (by omega)
        simp [Array.getD_eq_getD_getElem?, h3]

/-- A REGION THAT DRAWS ITS ORDER, each of whose operations comes to a value (and leaves a world) of which a fact holds that stands whatever the others do. -/
theorem region_stable (id : Nat) (R : World → World → Prop) (Φ : Nat → Value → World → Prop) {a : Act} {w : World}
    (hm : P.follows .mixedOrders = true) (hE : edgesBack ops = true) (hD : dstsApart ops = true)
    (hRr : ∀ w, R w w) (hRt : ∀ {a b c}, R a b → R b c → R a c)
    (hΦ : ∀ i v w w', Φ i v w → R w w' → Φ i v w')
    (hop : ∀ (i : Nat) (o : Oper), ops[i]? = some o → ∀ (a' : Act) (w' : World), a'.defers = a.defers → (∀ t : Nat, isDst ops t = false → a'.tmps.getD t undef = a.tmps.getD t undef) →
      R { w with drawn := w.drawn + 1 } w' → (∀ e ∈ o.after.toList, Region.binds .any e = true → Φ e.on (slotOf a' ((ops[e.on]?).bind (·.dst))) w') →
      (∀ d, o.dst = some d → d < a'.tmps.size) →
      wpOp P ops Q i (fun a'' w'' => ∃ v, a'' = a'.put o.dst v ∧ Φ i (if o.dst.isSome then v else undef) w'' ∧ R w' w'') a' w')
    (hsize : ∀ (i : Nat) (o : Oper) (d : Nat), ops[i]? = some o → o.dst = some d → d < a.tmps.size)
    (hend : ∀ (a' : Act) (w' : World), a'.defers = a.defers → a'.tmps.size = a.tmps.size → (∀ t : Nat, isDst ops t = false → a'.tmps.getD t undef = a.tmps.getD t undef) →
      R { w with drawn := w.drawn + 1 } w' → (∀ (j : Nat) (oj : Oper), ops[j]? = some oj → Φ j (slotOf a' oj.dst) w') → Q .normal a' w') :
    (Code.region id ops true).wp P Q a w := by
  refine wp_region_any hm ?_
  let Inv : Array Bool → Act → World → Prop := fun listed a' w' => listed.size = ops.size ∧ a'.defers = a.defers ∧ a'.tmps.size = a.tmps.size ∧
    (∀ t : Nat, isDst ops t = false → a'.tmps.getD t undef = a.tmps.getD t undef) ∧ R { w with drawn := w.drawn + 1 } w' ∧
    ∀ (j : Nat) (oj : Oper), ops[j]? = some oj → listed[j]? = some true → Φ j (slotOf a' oj.dst) w'
  refine wpAny_inv .any Inv ?_ ?_ (fun _ _ _ h => h.1) ops.size _ a _ ?_ ?_
  · intro listed a' w' ⟨h1, h2, h3, h4, h5, h6⟩ i hi
    simp only [Region.ready, List.mem_filter, List.mem_range, Bool.and_eq_true, Bool.not_eq_true'] at hi
    obtain ⟨hi1, hi2, hi3⟩ := hi
    have ho : ops[i]? = some ops[i] := Array.getElem?_eq_getElem hi1
    refine wpOp_mono ?_ (hop i ops[i] ho a' w' h2 h4 h5 ?_ ?_)
    · rintro a'' w'' ⟨v, rfl, hv, hR⟩
      have hlt : i < listed.size := by omega
      refine ⟨by simpa using h1, ?_, ?_, ?_, hRt h5 hR, ?_⟩
      · cases ops[i].dst <;> exact h2
      · cases ops[i].dst <;> simp [Act.put, h3]
      · intro t ht
        rw [← h4 t ht]
        have hne0 : ops[i].dst ≠ some t := by
          intro e
          have : isDst ops t = true := by
            simp only [isDst, Array.any_eq_true]
            exact ⟨i, hi1, by rw [e]; simp⟩
          rw [ht] at this; cases this
        cases hd : ops[i].dst with
        | none => rfl
        | some d =>
          have hne : d ≠ t := fun e => hne0 (by rw [hd, e])
          simp [Act.put, Array.getElem?_setIfInBounds_ne hne]
      · intro j oj hj hl
        by_cases hij : i = j
        · subst hij
          rw [ho] at hj; cases hj
          cases hd : ops[i].dst with
          | none => rw [hd] at hv; exact hv
          | some d =>
            rw [hd] at hv
            have hdl : d < a'.tmps.size := by rw [h3]; exact hsize i _ d ho hd
            simpa [slotOf, Act.put, Array.getElem?_setIfInBounds_self, hdl] using hv
        · have hl' : listed[j]? = some true := by rw [Array.getElem?_setIfInBounds_ne hij] at hl; exact hl
          have hold := hΦ j _ _ _ (h6 j oj hj hl') hR
          have hsame : slotOf (a'.put ops[i].dst v) oj.dst = slotOf a' oj.dst := by
            cases hd : ops[i].dst with
            | none => rfl
            | some d =>
              cases hd2 : oj.dst with
              | none => rfl
              | some d2 =>
                have hne : d ≠ d2 := by
                  simp only [dstsApart, List.all_eq_true, List.mem_range] at hD
                  have hj1 : j < ops.size := (Array.getElem?_eq_some_iff.1 hj).1
                  have := hD i hi1 j hj1
                  rw [ho, hj] at this
                  simp [hd, hd2, hij] at this
                  exact this
                simp [slotOf, Act.put, Array.getElem?_setIfInBounds_ne hne]
          rw [hsame]; exact hold
    · intro e he hb
      rw [ho] at hi3
      simp only [Option.map_some, Option.getD_some, Array.all_eq_true_iff_forall_mem] at hi3
      have h7 := hi3 e (by simpa using he)
      simp only [hb, Bool.not_true, Bool.false_or] at h7
      have h8 : listed[e.on]? = some true := by
        cases hq : listed[e.on]? with
        | none => simp [Array.getD_eq_getD_getElem?, hq] at h7
        | some x => simp [Array.getD_eq_getD_getElem?, hq] at h7; rw [h7]
      have hlt : e.on < ops.size := by
        have := (Array.getElem?_eq_some_iff.1 h8).1; omega
      have h9 := h6 e.on ops[e.on] (Array.getElem?_eq_getElem hlt) h8
      rw [Array.getElem?_eq_getElem hlt]
      exact h9
    · intro d hd
      rw [h3]; exact hsize i _ d ho hd
  · intro listed a' w' ⟨h1, h2, h3, h4, h5, h6⟩ hr
    have hall := ready_nil hE listed h1 hr
    exact hend a' w' h2 h3 h4 h5 fun j oj hj => h6 j oj hj (hall j (Array.getElem?_eq_some_iff.1 hj).1)
  · exact ⟨by simp, rfl, rfl, fun _ _ => rfl, hRr _, fun j oj hj hl => by
      have hj1 : j < ops.size := (Array.getElem?_eq_some_iff.1 hj).1
      rw [Array.getElem?_replicate, if_pos hj1] at hl; cases hl⟩
  · rw [Array.toList_replicate, List.count_replicate_self]; exact Nat.le_refl _
end
end Go.Esc
namespace Go.Esc
open Go Go.RowKit
def AllOps (F : Nat → Oper → Prop) : Nat → List Oper → Prop
  | _, [] => True
  | n, o :: r => F n o ∧ AllOps F (n+1) r
theorem AllOps.get {F : Nat → Oper → Prop} : ∀ {l : List Oper} {n : Nat}, AllOps F n l → ∀ i o, l[i]? = some o → F (n + i) o
  | o' :: r, n, h, 0, o, hi => by simp at hi; subst hi; exact h.1
  | o' :: r, n, h, i+1, o, hi => by
    have := AllOps.get h.2 i o (by simpa using hi)
    rwa [Nat.add_assoc, Nat.add_comm 1 i] at this
  | [], _, _, i, o, hi => by simp at hi
/-- The value is v. -/
def Is (v : Value) : Value → World → Prop := fun u _ => u = v
def Any : Value → World → Prop := fun _ _ => True
/-- What holds of a value goes on to hold. -/
class Stable (Φ : Value → World → Prop) : Prop where
  keep : ∀ v w w', Φ v w → Pu w w' → Φ v w'
class AllStable (l : List (Value → World → Prop)) : Prop where
  keep : ∀ Φ ∈ l, ∀ v w w', Φ v w → Pu w w' → Φ v w'
instance (v : Value) : Stable (Is v) := ⟨fun _ _ _ h _ => h⟩
instance : Stable Any := ⟨fun _ _ _ _ _ => trivial⟩
instance : AllStable [] := ⟨fun _ h => by cases h⟩
instance (Φ : Value → World → Prop) (l : List (Value → World → Prop)) [h : Stable Φ] [k : AllStable l] : AllStable (Φ :: l) := ⟨fun Ψ hm => by
  rcases List.mem_cons.1 hm with rfl | hm
  · exact h.keep
  · exact k.keep Ψ hm⟩
/-- A slice of a new row which begins with xs. -/
def IsRow (e : TypeId) (n : Nat) (xs : List Value) : Value → World → Prop := fun v w => ∃ g cap, v = .slice (some ⟨g, 0, none⟩) n cap ∧ Row w g e xs
instance (e : TypeId) (n : Nat) (xs : List Value) : Stable (IsRow e n xs) := ⟨fun _ _ _ h hp => by obtain ⟨g, cap, hv, hr⟩ := h; exact ⟨g, cap, hv, hr.pu hp⟩⟩
section
variable {P : Program} {ops : Array Oper} {Q : Exit → Act → World → Prop}
/-- What is asked of an operation. -/
def OpOk (P : Program) (ops : Array Oper) (Q : Exit → Act → World → Prop) (Φs : List (Value → World → Prop)) (a : Act) (w : World) (i : Nat) (o : Oper) : Prop :=
  ∀ (a' : Act) (w' : World), (∀ t : Nat, isDst ops t = false → a'.tmps[t]?.getD undef = a.tmps[t]?.getD undef) → Pu w w' →
    (∀ e ∈ o.after.toList, Region.binds .any e = true → Φs.getD e.on Any (match (ops[e.on]?).bind (·.dst) with | some d => a'.tmps[d]?.getD undef | none => undef) w') →
    wpOp P ops Q i (fun a'' w'' => ∃ v, a'' = a'.put o.dst v ∧ Φs.getD i Any (if o.dst.isSome then v else undef) w'' ∧ Pu w' w'') a' w'
theorem slot_eq (a : Act) (d : Option Tmp) : slotOf a d = (match d with | some d => a.tmps[d]?.getD undef | none => undef) := by
  cases d <;> simp [slotOf, Array.getD_eq_getD_getElem?]
theorem Pu.refl (w : World) : Pu w w := Below.refl _ _
theorem region_pu (id : Nat) (Φs : List (Value → World → Prop)) {a : Act} {w : World}
    (hm : P.follows .mixedOrders = true) (hE : edgesBack ops = true) (hD : dstsApart ops = true)
    [hΦ : AllStable Φs]
    (hsize : (ops.toList.all fun o => match o.dst with | some d => decide (d < a.tmps.size) | none => true) = true)
    (hop : AllOps (OpOk P ops Q Φs a w) 0 ops.toList)
    (hend : ∀ (a' : Act) (w' : World), a'.defers = a.defers → a'.tmps.size = a.tmps.size → (∀ t : Nat, isDst ops t = false → a'.tmps[t]?.getD undef = a.tmps[t]?.getD undef) → Pu w w' →
      AllOps (fun j oj => Φs.getD j Any (match oj.dst with | some d => a'.tmps[d]?.getD undef | none => undef) w') 0 ops.toList → Q .normal a' w') :
    (Code.region id ops true).wp P Q a w := by
  have hw0 : ∀ w', Pu { w with drawn := w.drawn + 1 } w' ↔ Pu w w' := fun w' => ⟨fun h => ⟨h.os, h.tape, h.output, h.size, h.block⟩, fun h => ⟨h.os, h.tape, h.output, h.size, h.block⟩⟩
  refine region_stable id Pu (fun i => Φs.getD i Any) hm hE hD Pu.refl (fun h k => Pu.trans h k) ?_ ?_ ?_ ?_
  · intro i v w w' h hp
    by_cases hi : i < Φs.length
    · have e : Φs.getD i Any = Φs[i] := by simp [List.getD, List.getElem?_eq_getElem hi]
      rw [e] at h ⊢
      exact hΦ.keep _ (List.getElem_mem hi) _ _ _ h hp
    · have e : Φs.getD i Any = Any := by simp [List.getD, List.getElem?_eq_none (by omega : Φs.length ≤ i)]
      rw [e]; trivial
  · intro i o ho a' w' _ hs hp he _
    have h1 := hop.get i o (by simpa using ho)
    rw [Nat.zero_add] at h1
    refine h1 a' w' (fun t ht => ?_) ((hw0 w').1 hp) (fun e hm hb => ?_)
    · have := hs t ht; simpa [Array.getD_eq_getD_getElem?] using this
    · have := he e hm hb; rw [slot_eq] at this; exact this
  · intro i o d ho hd
    have := List.all_eq_true.1 hsize o (by rw [Array.mem_toList_iff]; exact Array.mem_of_getElem? ho)
    rw [hd] at this; simpa using this
  · intro a' w' h1 h2 hs hp hall
    refine hend a' w' h1 h2 (fun t ht => ?_) ((hw0 w').1 hp) ?_
    · have := hs t ht; simpa [Array.getD_eq_getD_getElem?] using this
    · have key : ∀ (l : List Oper) (n : Nat), (∀ i o, l[i]? = some o → Φs.getD (n + i) Any (match o.dst with | some d => a'.tmps[d]?.getD undef | none => undef) w') → AllOps (fun j oj => Φs.getD j Any (match oj.dst with | some d => a'.tmps[d]?.getD undef | none => undef) w') n l := by
        intro l
        induction l with
        | nil => intro _ _; trivial
        | cons o l ih =>
          intro n h
          refine ⟨by simpa using h 0 o rfl, ih (n+1) fun i o' hi => ?_⟩
          have := h (i+1) o' (by simpa using hi)
          rwa [Nat.add_assoc, Nat.add_comm 1 i]
      refine key _ 0 fun i o hi => ?_
      rw [Nat.zero_add]
      have := hall i o (by simpa using hi)
      rw [slot_eq] at this; exact this

theorem op_val {Φ : Value → World → Prop} {i : Nat} {o : Oper} {a' : Act} {w' w'' : World} {v : Value} (ho : ops[i]? = some o) (hw : Region.wanted o (yielded ops a'.tmps) = true)
    (hrun : (execOp a'.eval o).run P w' = .ok (.value v) w'') (hφ : Φ (if o.dst.isSome then v else undef) w'') (hp : Pu w' w'') :
    wpOp P ops Q i (fun a'' w'' => ∃ v, a'' = a'.put o.dst v ∧ Φ (if o.dst.isSome then v else undef) w'' ∧ Pu w' w'') a' w' := by
  unfold wpOp
  simp only [ho, hw, if_true]
  refine .inl ?_
  unfold Oper.wp
  rw [hrun]
  exact ⟨v, rfl, hφ, hp⟩
theorem op_skip {Φ : Value → World → Prop} {i : Nat} {o : Oper} {a' : Act} {w' : World} (ho : ops[i]? = some o) (hw : Region.wanted o (yielded ops a'.tmps) = false)
    (hφ : Φ undef w') :
    wpOp P ops Q i (fun a'' w'' => ∃ v, a'' = a'.put o.dst v ∧ Φ (if o.dst.isSome then v else undef) w'' ∧ Pu w' w'') a' w' := by
  unfold wpOp
  simp only [ho, hw, Bool.false_eq_true, if_false]
  exact ⟨undef, rfl, by split <;> exact hφ, Pu.refl _⟩
theorem op_call {Φ : Value → World → Prop} {i : Nat} {o : Oper} {a' : Act} {w' : World} {f : FuncId} {args : Array Value} (ho : ops[i]? = some o) (hw : Region.wanted o (yielded ops a'.tmps) = true)
    (hrun : (execOp a'.eval o).run P w' = .ok (.enter f args) w') (hc : Calls P f args w' fun e w'' => ∃ v, e = .returned v ∧ Φ (if o.dst.isSome then v else undef) w'' ∧ Pu w' w'') :
    wpOp P ops Q i (fun a'' w'' => ∃ v, a'' = a'.put o.dst v ∧ Φ (if o.dst.isSome then v else undef) w'' ∧ Pu w' w'') a' w' := by
  unfold wpOp
  simp only [ho, hw, if_true]
  refine .inl ?_
  unfold Oper.wp
  rw [hrun, Oper.upon_enter]
  refine hc.mono ?_
  rintro e w'' ⟨v, rfl, hφ, hp⟩
  exact ⟨v, rfl, hφ, hp⟩
theorem op_callV {Φ : Value → World → Prop} {i : Nat} {o : Oper} {a' : Act} {w' : World} {f : FuncId} {args : Array Value} {v : Value} (hc : Calls P f args w' fun e w'' => e = .returned v ∧ w'' = w') (ho : ops[i]? = some o) (hw : Region.wanted o (yielded ops a'.tmps) = true)
    (hrun : (execOp a'.eval o).run P w' = .ok (.enter f args) w') (hφ : Φ (if o.dst.isSome then v else undef) w') :
    wpOp P ops Q i (fun a'' w'' => ∃ v, a'' = a'.put o.dst v ∧ Φ (if o.dst.isSome then v else undef) w'' ∧ Pu w' w'') a' w' :=
  op_call ho hw hrun (hc.mono (by rintro e w'' ⟨rfl, rfl⟩; exact ⟨_, rfl, hφ, Pu.refl _⟩))
theorem op_callP {Φ : Value → World → Prop} {i : Nat} {o : Oper} {a' : Act} {w' : World} {f : FuncId} {args : Array Value} {v : Value} (hc : Calls P f args w' fun e w'' => e = .returned v ∧ Pu w' w'') (ho : ops[i]? = some o) (hw : Region.wanted o (yielded ops a'.tmps) = true)
    (hrun : (execOp a'.eval o).run P w' = .ok (.enter f args) w') (hφ : ∀ w'', Φ (if o.dst.isSome then v else undef) w'') :
    wpOp P ops Q i (fun a'' w'' => ∃ v, a'' = a'.put o.dst v ∧ Φ (if o.dst.isSome then v else undef) w'' ∧ Pu w' w'') a' w' :=
  op_call ho hw hrun (hc.mono (by rintro e w'' ⟨rfl, hp⟩; exact ⟨_, rfl, hφ _, hp⟩))
theorem wanted_none {o : Oper} {y : Nat → Option Bool} (h : o.guard = none) : Region.wanted o y = true := by simp [Region.wanted, h]
theorem wanted_some {o : Oper} {tmps : Array Value} {g : Nat} {want b : Bool} {d : Tmp} (hg : o.guard = some (g, want)) (hd : (ops[g]?).bind (·.dst) = some d) (h : tmps[d]?.getD undef = .bool b) :
    Region.wanted o (yielded ops tmps) = (b == want) := by
  have hy : yielded ops tmps g = some b := by
    unfold yielded
    rw [hd]
    cases ht : tmps[d]? with
    | none => rw [ht] at h; cases h
    | some v => rw [ht] at h; simp at h; subst h; simp [ht]
  simp [Region.wanted, hg, hy]
end
end Go.Esc
namespace Go.Esc
open Go Go.RowKit
/-- Two frames agree but at the slots ds. -/
def Agree (A B : Array Value) (ds : List Nat) : Prop := A.size = B.size ∧ ∀ t, ds.contains t = false → A[t]?.getD undef = B[t]?.getD undef
theorem agree_init {ops : Array Oper} {A B : Array Value} (ds : List Nat) (hsz : A.size = B.size) (h : ∀ t : Nat, isDst ops t = false → A[t]?.getD undef = B[t]?.getD undef)
    (hk : (ops.toList.all fun o => match o.dst with | some d => ds.contains d | none => true) = true) : Agree A B ds := by
  refine ⟨hsz, fun t ht => h t ?_⟩
  cases hd : isDst ops t with
  | false => rfl
  | true =>
    simp only [isDst, Array.any_eq_true] at hd
    obtain ⟨i, hi, he⟩ := hd
    have := List.all_eq_true.1 hk ops[i] (by simp)
    have he' : ops[i].dst = some t := by simpa using he
    rw [he'] at this
    simp only at this
    rw [ht] at this; cases this
theorem agree_step {A B : Array Value} {d : Nat} {ds : List Nat} {v : Value} (h : Agree A B (d :: ds)) (hv : A[d]?.getD undef = v) : Agree A (B.setIfInBounds d v) ds := by
  refine ⟨by simpa using h.1, fun t ht => ?_⟩
  by_cases e : d = t
  · subst e
    by_cases hl : d < B.size
    · rw [Array.getElem?_setIfInBounds_self, if_pos hl, hv]; rfl
    · rw [Array.getElem?_setIfInBounds_self, if_neg hl, Array.getElem?_eq_none (by have := h.1; omega)]
  · rw [Array.getElem?_setIfInBounds_ne e]
    refine h.2 t ?_
    simp only [List.contains_cons, Bool.or_eq_false_iff]
    exact ⟨by simpa using Ne.symm e, ht⟩
theorem agree_done {A B : Array Value} (h : Agree A B []) : A = B := by
  apply Array.ext h.1
  intro i h1 h2
  have := h.2 i rfl
  simpa [Array.getElem?_eq_getElem h1, Array.getElem?_eq_getElem h2] using this
theorem act_of {a : Act} {A : Array Value} {D : List Deferred} (h1 : a.tmps = A) (h2 : a.defers = D) : a = { tmps := A, defers := D } := by cases a; simp at h1 h2; simp [h1, h2]
end Go.Esc
