/- A law for regions that draw their order, two of whose operations make blocks of their own: they are apart. -/
import Derived.Test.YtlbdbmnkjljohaaGreatT17
namespace Go.Esc
open Go Go.RowKit
/-- The block that a slice lies in. -/
def blkV : Value → Nat
  | .slice (some a) _ _ => a.block
  | _ => 0
section
variable {P : Program} {ops : Array Oper} {Q : Exit → Act → World → Prop}
def OpOkP (P : Program) (ops : Array Oper) (Q : Exit → Act → World → Prop) (p q sp sq : Nat) (Φs : List (Value → World → Prop)) (a : Act) (w : World) (i : Nat) (o : Oper) : Prop :=
  ∀ (a' : Act) (w' : World), (∀ t : Nat, isDst ops t = false → a'.tmps[t]?.getD undef = a.tmps[t]?.getD undef) → Pu w w' →
    (∀ e ∈ o.after.toList, Region.binds .any e = true → Φs.getD e.on Any (match (ops[e.on]?).bind (·.dst) with | some d => a'.tmps[d]?.getD undef | none => undef) w') →
    ((o.after.toList.any fun e => Region.binds .any e && e.on == p) = true → (o.after.toList.any fun e => Region.binds .any e && e.on == q) = true → blkV (a'.tmps[sp]?.getD undef) ≠ blkV (a'.tmps[sq]?.getD undef)) →
    wpOp P ops Q i (fun a'' w'' => ∃ v, a'' = a'.put o.dst v ∧ Φs.getD i Any (if o.dst.isSome then v else undef) w'' ∧ Pu w' w'' ∧ (i = p ∨ i = q → w'.heap.size ≤ blkV v ∧ blkV v < w''.heap.size)) a' w'
theorem op_plain {p q i : Nat} {Φ : Value → World → Prop} {o : Oper} {a' : Act} {w' : World} (hi : ¬ (i = p ∨ i = q)) (h : wpOp P ops Q i (fun a'' w'' => ∃ v, a'' = a'.put o.dst v ∧ Φ (if o.dst.isSome then v else undef) w'' ∧ Pu w' w'') a' w') :
    wpOp P ops Q i (fun a'' w'' => ∃ v, a'' = a'.put o.dst v ∧ Φ (if o.dst.isSome then v else undef) w'' ∧ Pu w' w'' ∧ (i = p ∨ i = q → w'.heap.size ≤ blkV v ∧ blkV v < w''.heap.size)) a' w' :=
  wpOp_mono (fun a'' w'' ⟨v, h1, h2, h3⟩ => ⟨v, h1, h2, h3, fun h => absurd h hi⟩) h
theorem op_made {p q i : Nat} {Φ : Value → World → Prop} {o : Oper} {a' : Act} {w' w'' : World} {v : Value} (ho : ops[i]? = some o) (hw : Region.wanted o (yielded ops a'.tmps) = true)
    (hrun : (execOp a'.eval o).run P w' = .ok (.value v) w'') (hφ : Φ (if o.dst.isSome then v else undef) w'') (hp : Pu w' w'') (hb : w'.heap.size ≤ blkV v ∧ blkV v < w''.heap.size) :
    wpOp P ops Q i (fun a'' w'' => ∃ v, a'' = a'.put o.dst v ∧ Φ (if o.dst.isSome then v else undef) w'' ∧ Pu w' w'' ∧ (i = p ∨ i = q → w'.heap.size ≤ blkV v ∧ blkV v < w''.heap.size)) a' w' := by
  unfold wpOp
  simp only [ho, hw, if_true]
  refine .inl ?_
  unfold Oper.wp
  rw [hrun]
  exact ⟨v, rfl, hφ, hp, fun _ => hb⟩
theorem region_pair (id : Nat) (p q sp sq : Nat) (Φs : List (Value → World → Prop)) {a : Act} {w : World}
    (hm : P.follows .mixedOrders = true) (hE : edgesBack ops = true) (hD : dstsApart ops = true)
    [hΦ : AllStable Φs]
    (hpq : p ≠ q) (hsp : ((ops[p]?).bind (·.dst)) = some sp) (hsq : ((ops[q]?).bind (·.dst)) = some sq)
    (hsize : (ops.toList.all fun o => match o.dst with | some d => decide (d < a.tmps.size) | none => true) = true)
    (hop : AllOps (OpOkP P ops Q p q sp sq Φs a w) 0 ops.toList)
    (hend : ∀ (a' : Act) (w' : World), a'.defers = a.defers → a'.tmps.size = a.tmps.size → (∀ t : Nat, isDst ops t = false → a'.tmps[t]?.getD undef = a.tmps[t]?.getD undef) → Pu w w' →
      blkV (a'.tmps[sp]?.getD undef) ≠ blkV (a'.tmps[sq]?.getD undef) →
      AllOps (fun j oj => Φs.getD j Any (match oj.dst with | some d => a'.tmps[d]?.getD undef | none => undef) w') 0 ops.toList → Q .normal a' w') :
    (Code.region id ops true).wp P Q a w := by
  have hw0 : ∀ w', Pu { w with drawn := w.drawn + 1 } w' ↔ Pu w w' := fun w' => ⟨fun h => ⟨h.os, h.tape, h.output, h.size, h.block⟩, fun h => ⟨h.os, h.tape, h.output, h.size, h.block⟩⟩
  have hsz : ∀ (i : Nat) (o : Oper) (d : Nat), ops[i]? = some o → o.dst = some d → d < a.tmps.size := by
    intro i o d ho hd
    have := List.all_eq_true.1 hsize o (by rw [Array.mem_toList_iff]; exact Array.mem_of_getElem? ho)
    rw [hd] at this; simpa using this
  let Φ : Nat → Value → World → Prop := fun i => Φs.getD i Any
  have hkeep : ∀ i v w w', Φ i v w → Pu w w' → Φ i v w' := by
    intro i v w w' h hp
    by_cases hi : i < Φs.length
    · have e : Φs.getD i Any = Φs[i] := by simp [List.getD, List.getElem?_eq_getElem hi]
      simp only [Φ, e] at h ⊢
      exact hΦ.keep _ (List.getElem_mem hi) _ _ _ h hp
    · have e : Φs.getD i Any = Any := by simp [List.getD, List.getElem?_eq_none (by omega : Φs.length ≤ i)]
      simp only [Φ, e]; trivial
  refine wp_region_any hm ?_
  let Inv : Array Bool → Act → World → Prop := fun listed a' w' => listed.size = ops.size ∧ a'.defers = a.defers ∧ a'.tmps.size = a.tmps.size ∧
    (∀ t : Nat, isDst ops t = false → a'.tmps[t]?.getD undef = a.tmps[t]?.getD undef) ∧ Pu w w' ∧
    ((listed[p]? = some true → blkV (a'.tmps[sp]?.getD undef) < w'.heap.size) ∧ (listed[q]? = some true → blkV (a'.tmps[sq]?.getD undef) < w'.heap.size) ∧ (listed[p]? = some true → listed[q]? = some true → blkV (a'.tmps[sp]?.getD undef) ≠ blkV (a'.tmps[sq]?.getD undef))) ∧
    ∀ (j : Nat) (oj : Oper), ops[j]? = some oj → listed[j]? = some true → Φ j (match oj.dst with | some d => a'.tmps[d]?.getD undef | none => undef) w'
  refine wpAny_inv .any Inv ?_ ?_ (fun _ _ _ h => h.1) ops.size _ a _ ?_ ?_
  · intro listed a' w' ⟨h1, h2, h3, h4, h5, ⟨k1, k2, k3⟩, h6⟩ i hi
    simp only [Region.ready, List.mem_filter, List.mem_range, Bool.and_eq_true, Bool.not_eq_true'] at hi
    obtain ⟨hi1, hi2, hi3⟩ := hi
    have ho : ops[i]? = some ops[i] := Array.getElem?_eq_getElem hi1
    have hk := hop.get i ops[i] (by simp)
    rw [Nat.zero_add] at hk
    have hlt : i < listed.size := by omega
    have haw : ∀ e ∈ ops[i].after.toList, Region.binds .any e = true → listed[e.on]? = some true := by
      intro e he hb
      rw [ho] at hi3
      simp only [Option.map_some, Option.getD_some, Array.all_eq_true_iff_forall_mem] at hi3
      have h7 := hi3 e (by simpa using he)
      simp only [hb, Bool.not_true, Bool.false_or] at h7
      cases hq : listed[e.on]? with
      | none => simp [Array.getD_eq_getD_getElem?, hq] at h7
      | some x => simp [Array.getD_eq_getD_getElem?, hq] at h7; rw [h7]
    refine wpOp_mono ?_ (hk a' w' h4 h5 ?_ ?_)
    · rintro a'' w'' ⟨v, rfl, hv, hR, hbl⟩
      have hother : ∀ (j d2 : Nat), j ≠ i → ((ops[j]?).bind (·.dst)) = some d2 → (a'.put ops[i].dst v).tmps[d2]?.getD undef = a'.tmps[d2]?.getD undef := by
        intro j d2 hji hjd
        cases hd : ops[i].dst with
        | none => rfl
        | some d =>
          have hne : d ≠ d2 := by
            simp only [dstsApart, List.all_eq_true, List.mem_range] at hD
            have hj1 : j < ops.size := by
              cases hj : ops[j]? with
              | none => rw [hj] at hjd; cases hjd
              | some oj => exact (Array.getElem?_eq_some_iff.1 hj).1
            have := hD i hi1 j hj1
            rw [ho] at this
            simp [hd, hjd, hji.symm] at this
            exact this
          simp [Act.put, Array.getElem?_setIfInBounds_ne hne]
      have hself : ∀ d, ops[i].dst = some d → (a'.put ops[i].dst v).tmps[d]?.getD undef = v := by
        intro d hd
        have hdl : d < a'.tmps.size := by rw [h3]; exact hsz i _ d ho hd
        rw [hd]
        simp [Act.put, Array.getElem?_setIfInBounds_self, hdl]
      refine ⟨by simpa using h1, ?_, ?_, ?_, Pu.trans h5 hR, ⟨?_, ?_, ?_⟩, ?_⟩
      · cases ops[i].dst <;> exact h2
      · cases ops[i].dst <;> simp [Act.put, h3]
      · intro t ht
        rw [← h4 t ht]
        have hne0 : ops[i].dst ≠ some t := by
          intro e
          have : isDst ops t = true := by
            simp only [isDst, Array.any_eq_true]
            exact ⟨i, hi1, by rw [e]; simp⟩
          rw [ht] at this; cases this
        cases hd : ops[i].dst with
        | none => rfl
        | some d =>
          have hne : d ≠ t := fun e => hne0 (by rw [hd, e])
          simp [Act.put, Array.getElem?_setIfInBounds_ne hne]
      · intro hl
        by_cases hip : i = p
        · subst hip
          rw [ho] at hsp
          rw [hself sp hsp]
          exact (hbl (.inl rfl)).2
        · rw [Array.getElem?_setIfInBounds_ne hip] at hl
          rw [hother p sp (fun e => hip e.symm) hsp]
          exact Nat.lt_of_lt_of_le (k1 hl) hR.size
      · intro hl
        by_cases hip : i = q
        · subst hip
          rw [ho] at hsq
          rw [hself sq hsq]
          exact (hbl (.inr rfl)).2
        · rw [Array.getElem?_setIfInBounds_ne hip] at hl
          rw [hother q sq (fun e => hip e.symm) hsq]
          exact Nat.lt_of_lt_of_le (k2 hl) hR.size
      · intro hlp hlq
        by_cases hip : i = p
        · subst hip
          rw [Array.getElem?_setIfInBounds_ne hpq] at hlq
          have hs1 := hsp
          rw [ho] at hs1
          rw [hself sp hs1, hother q sq (fun e => hpq e.symm) hsq]
          have := (hbl (.inl rfl)).1
          have := k2 hlq
          omega
        · rw [Array.getElem?_setIfInBounds_ne hip] at hlp
          rw [hother p sp (fun e => hip e.symm) hsp]
          by_cases hiq : i = q
          · subst hiq
            rw [ho] at hsq
            rw [hself sq hsq]
            have := (hbl (.inr rfl)).1
            have := k1 hlp
            omega
          · rw [Array.getElem?_setIfInBounds_ne hiq] at hlq
            rw [hother q sq (fun e => hiq e.symm) hsq]
            exact k3 hlp hlq
      · intro j oj hj hl
        by_cases hij : i = j
        · subst hij
          rw [ho] at hj; cases hj
          cases hd : ops[i].dst with
          | none => rw [hd] at hv; exact hv
          | some d =>
            have h8 := hself d hd
            rw [hd] at hv h8
            show Φ i ((a'.put (some d) v).tmps[d]?.getD undef) w''
            rw [h8]; exact hv
        · have hl' : listed[j]? = some true := by rw [Array.getElem?_setIfInBounds_ne hij] at hl; exact hl
          have hold := hkeep j _ _ _ (h6 j oj hj hl') hR
          cases hd2 : oj.dst with
          | none => rw [hd2] at hold; exact hold
          | some d2 =>
            rw [hd2] at hold
            have h8 := hother j d2 (fun e => hij e.symm) (by rw [hj]; exact hd2)
            show Φ j ((a'.put ops[i].dst v).tmps[d2]?.getD undef) w''
            rw [h8]; exact hold
    · intro e he hb
      have h8 := haw e he hb
      have hlt : e.on < ops.size := by
        have := (Array.getElem?_eq_some_iff.1 h8).1; omega
      have h9 := h6 e.on ops[e.on] (Array.getElem?_eq_getElem hlt) h8
      rw [Array.getElem?_eq_getElem hlt]
      exact h9
    · intro ha hb
      simp only [List.any_eq_true, Bool.and_eq_true, beq_iff_eq] at ha hb
      obtain ⟨e1, m1, b1, o1⟩ := ha
      obtain ⟨e2, m2, b2, o2⟩ := hb
      have l1 := haw e1 m1 b1
      have l2 := haw e2 m2 b2
      rw [o1] at l1
      rw [o2] at l2
      exact k3 l1 l2
  · intro listed a' w' ⟨h1, h2, h3, h4, h5, ⟨k1, k2, k3⟩, h6⟩ hr
    have hall := ready_nil hE listed h1 hr
    have hin : ∀ (j d : Nat), ((ops[j]?).bind (·.dst)) = some d → listed[j]? = some true := by
      intro j d hjd
      cases hj : ops[j]? with
      | none => rw [hj] at hjd; cases hjd
      | some oj => exact hall j (Array.getElem?_eq_some_iff.1 hj).1
    refine hend a' w' h2 h3 h4 h5 (k3 (hin p sp hsp) (hin q sq hsq)) ?_
    have key : ∀ (l : List Oper) (n : Nat), (∀ (i : Nat) (o : Oper), l[i]? = some o → Φ (n + i) (match o.dst with | some d => a'.tmps[d]?.getD undef | none => undef) w') → AllOps (fun (j : Nat) (oj : Oper) => Φ j (match oj.dst with | some d => a'.tmps[d]?.getD undef | none => undef) w') n l := by
      intro l
      induction l with
      | nil => intro _ _; trivial
      | cons o l ih =>
        intro n h
        refine ⟨by simpa using h 0 o rfl, ih (n+1) fun i o' hi => ?_⟩
        have := h (i+1) o' (by simpa using hi)
        rw [show n + 1 + i = n + (i + 1) by omega]
        exact this
    refine key _ 0 fun i o hi => ?_
    rw [Nat.zero_add]
    have hi' : ops[i]? = some o := by simpa using hi
    exact h6 i o hi' (hall i (Array.getElem?_eq_some_iff.1 hi').1)
  · have hfalse : ∀ j : Nat, ¬ (Array.replicate ops.size false)[j]? = some true := fun j hl => by
      rw [Array.getElem?_replicate] at hl
      split at hl <;> cases hl
    exact ⟨by simp, rfl, rfl, fun _ _ => rfl, (hw0 _).1 (Pu.refl _), ⟨fun h => absurd h (hfalse _), fun h => absurd h (hfalse _), fun h => absurd h (hfalse _)⟩, fun j oj hj hl => absurd hl (hfalse _)⟩
  · rw [Array.toList_replicate, List.count_replicate_self]; exact Nat.le_refl _
end
end Go.Esc
