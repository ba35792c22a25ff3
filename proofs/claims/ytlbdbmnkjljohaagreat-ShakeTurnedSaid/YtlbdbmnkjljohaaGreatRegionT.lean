/- A law for regions that draw their order and in which an operation assigns a slot that an earlier one reads: the later one awaits the earlier one. -/
import Derived.Test.YtlbdbmnkjljohaaGreatT17
namespace Go.Esc
open Go Go.RowKit
/-- Whoever writes the slot t awaits operation i. -/
def lateDst (ops : Array Oper) (i t : Nat) : Bool := ops.all fun o => !(o.dst == some t) || o.after.any fun e => Region.binds .any e && e.on == i
section
variable {P : Program} {ops : Array Oper} {Q : Exit → Act → World → Prop}
def OpOkT (P : Program) (ops : Array Oper) (Q : Exit → Act → World → Prop) (Φs : List (Value → World → Prop)) (a : Act) (w : World) (i : Nat) (o : Oper) : Prop :=
  ∀ (a' : Act) (w' : World), (∀ t : Nat, lateDst ops i t = true → a'.tmps[t]?.getD undef = a.tmps[t]?.getD undef) → Pu w w' →
    (∀ e ∈ o.after.toList, Region.binds .any e = true → Φs.getD e.on Any (match (ops[e.on]?).bind (·.dst) with | some d => a'.tmps[d]?.getD undef | none => undef) w') →
    wpOp P ops Q i (fun a'' w'' => ∃ v, a'' = a'.put o.dst v ∧ Φs.getD i Any (if o.dst.isSome then v else undef) w'' ∧ Pu w' w'') a' w'
theorem region_late (id : Nat) (Φs : List (Value → World → Prop)) {a : Act} {w : World}
    (hm : P.follows .mixedOrders = true) (hE : edgesBack ops = true) (hD : dstsApart ops = true)
    [hΦ : AllStable Φs]
    (hsize : (ops.toList.all fun o => match o.dst with | some d => decide (d < a.tmps.size) | none => true) = true)
    (hop : AllOps (OpOkT P ops Q Φs a w) 0 ops.toList)
    (hend : ∀ (a' : Act) (w' : World), a'.defers = a.defers → a'.tmps.size = a.tmps.size → (∀ t : Nat, isDst ops t = false → a'.tmps[t]?.getD undef = a.tmps[t]?.getD undef) → Pu w w' →
      AllOps (fun j oj => Φs.getD j Any (match oj.dst with | some d => a'.tmps[d]?.getD undef | none => undef) w') 0 ops.toList → Q .normal a' w') :
    (Code.region id ops true).wp P Q a w := by
  refine wp_region_any hm ?_
  have hkeep : ∀ (i : Nat) (v : Value) (w w' : World), Φs.getD i Any v w → Pu w w' → Φs.getD i Any v w' := by
    intro i v w w' h hp
    by_cases hi : i < Φs.length
    · have e : Φs.getD i Any = Φs[i] := by simp [List.getD, List.getElem?_eq_getElem hi]
      rw [e] at h ⊢
      exact hΦ.keep _ (List.getElem_mem hi) _ _ _ h hp
    · have e : Φs.getD i Any = Any := by simp [List.getD, List.getElem?_eq_none (by omega : Φs.length ≤ i)]
      rw [e]; trivial
  let slot : Act → Option Tmp → Value := fun a' d => match d with | some d => a'.tmps[d]?.getD undef | none => undef
  let Inv : Array Bool → Act → World → Prop := fun listed a' w' => listed.size = ops.size ∧
    Closed ops listed ∧ a'.defers = a.defers ∧ a'.tmps.size = a.tmps.size ∧
      (∀ t : Nat, (∀ (j : Nat) (oj : Oper), ops[j]? = some oj → oj.dst = some t → listed[j]? ≠ some true) → a'.tmps[t]?.getD undef = a.tmps[t]?.getD undef) ∧ Pu w w' ∧
      ∀ (j : Nat) (oj : Oper), ops[j]? = some oj → listed[j]? = some true → Φs.getD j Any (slot a' oj.dst) w'
  refine wpAny_inv .any Inv ?_ ?_ (fun _ _ _ h => h.1) ops.size _ a _ ?_ ?_
  · intro listed a' w' ⟨h1, hcl, h2, h3, h4, h5, h6⟩ i hi
    simp only [Region.ready, List.mem_filter, List.mem_range, Bool.and_eq_true, Bool.not_eq_true'] at hi
    obtain ⟨hi1, hi2, hi3⟩ := hi
    have ho : ops[i]? = some ops[i] := Array.getElem?_eq_getElem hi1
    have hlt : i < listed.size := by omega
    have hif : listed[i]? = some false := by
      simp [Array.getD_eq_getD_getElem?, Array.getElem?_eq_getElem hlt] at hi2
      rw [Array.getElem?_eq_getElem hlt, hi2]
    have hi4 : ∀ e ∈ ops[i].after.toList, Region.binds .any e = true → listed[e.on]? = some true := by
      intro e he hb
      rw [ho] at hi3
      simp only [Option.map_some, Option.getD_some, Array.all_eq_true_iff_forall_mem] at hi3
      have h7 := hi3 e (by simpa using he)
      simp only [hb, Bool.not_true, Bool.false_or] at h7
      cases hq : listed[e.on]? with
      | none => simp [Array.getD_eq_getD_getElem?, hq] at h7
      | some x => simp [Array.getD_eq_getD_getElem?, hq] at h7; rw [h7]
    have hk := hop.get i ops[i] (by simp)
    rw [Nat.zero_add] at hk
    have hk2 := hk a' w' (fun t ht => h4 t fun j oj hj hd hl => by
        simp only [lateDst, Array.all_eq_true] at ht
        have hj1 : j < ops.size := (Array.getElem?_eq_some_iff.1 hj).1
        have hje : ops[j] = oj := by rw [Array.getElem?_eq_getElem hj1] at hj; simpa using hj
        have h8 := ht j hj1
        rw [hje, hd] at h8
        simp only [beq_self_eq_true, Bool.not_true, Bool.false_or, Array.any_eq_true, Bool.and_eq_true, beq_iff_eq] at h8
        obtain ⟨q, hq, hb, he⟩ := h8
        have h9 := hcl j oj hj hl (oj.after[q]) (by simp) hb
        rw [he, hif] at h9
        cases h9) h5 (fun e hm hb => by
      have h8 := hi4 e hm hb
      have hlt2 : e.on < ops.size := by
        have := (Array.getElem?_eq_some_iff.1 h8).1; omega
      have h9 := h6 e.on ops[e.on] (Array.getElem?_eq_getElem hlt2) h8
      rw [Array.getElem?_eq_getElem hlt2]
      exact h9)
    refine wpOp_mono ?_ hk2
    rintro a'' w'' ⟨v, rfl, hv, hR⟩
    refine ⟨by simp [h1], ?_, ?_, ?_, ?_, h5.trans hR, ?_⟩
    · intro j oj hj hl e he hb
      by_cases hij : i = j
      · subst hij
        rw [ho] at hj; cases hj
        have h8 := hi4 e he hb
        by_cases hie : i = e.on
        · rw [← hie] at h8; rw [hif] at h8; cases h8
        · rw [Array.getElem?_setIfInBounds_ne hie]; exact h8
      · have hl' : listed[j]? = some true := by rw [Array.getElem?_setIfInBounds_ne hij] at hl; exact hl
        have h8 := hcl j oj hj hl' e he hb
        by_cases hie : i = e.on
        · rw [← hie] at h8; rw [hif] at h8; cases h8
        · rw [Array.getElem?_setIfInBounds_ne hie]; exact h8
    · cases ops[i].dst <;> exact h2
    · cases ops[i].dst <;> simp [Act.put, h3]
    · intro t ht
      have hne0 : ops[i].dst ≠ some t := fun e => ht i ops[i] ho e (by rw [Array.getElem?_setIfInBounds_self, if_pos hlt])
      rw [← h4 t fun j oj hj hd hl => ht j oj hj hd (by
        by_cases hij : i = j
        · subst hij; rw [ho] at hj; cases hj; exact absurd hd hne0
        · rw [Array.getElem?_setIfInBounds_ne hij]; exact hl)]
      cases hd : ops[i].dst with
      | none => rfl
      | some d =>
        have hne : d ≠ t := fun e => hne0 (by rw [hd, e])
        simp [Act.put, Array.getElem?_setIfInBounds_ne hne]
    · intro j oj hj hl
      by_cases hij : i = j
      · subst hij
        rw [ho] at hj; cases hj
        cases hd : ops[i].dst with
        | none => rw [hd] at hv; exact hv
        | some d =>
          rw [hd] at hv
          have hdl : d < a'.tmps.size := by
            rw [h3]
            have := List.all_eq_true.1 hsize ops[i] (by simp)
            rw [hd] at this; simpa using this
          simpa [slot, Act.put, Array.getElem?_setIfInBounds_self, hdl] using hv
      · have hl' : listed[j]? = some true := by rw [Array.getElem?_setIfInBounds_ne hij] at hl; exact hl
        have hold := hkeep j _ _ _ (h6 j oj hj hl') hR
        have hsame : slot (a'.put ops[i].dst v) oj.dst = slot a' oj.dst := by
          cases hd : ops[i].dst with
          | none => rfl
          | some d =>
            cases hd2 : oj.dst with
            | none => rfl
            | some d2 =>
              have hne : d ≠ d2 := by
                simp only [dstsApart, List.all_eq_true, List.mem_range] at hD
                have hj1 : j < ops.size := (Array.getElem?_eq_some_iff.1 hj).1
                have := hD i hi1 j hj1
                rw [ho, hj] at this
                simp [hd, hd2, hij] at this
                exact this
              simp [slot, Act.put, Array.getElem?_setIfInBounds_ne hne]
        rw [hsame]; exact hold
  · intro listed a' w' ⟨h1, hcl, h2, h3, h4, h5, h6⟩ hr
    have hall := ready_nil hE listed h1 hr
    refine hend a' w' h2 h3 (fun t ht => h4 t fun j oj hj hd _ => ?_) h5 (AllOps.mk' _ _ fun j o hj => ?_)
    · have hj1 : j < ops.size := (Array.getElem?_eq_some_iff.1 hj).1
      have hje : ops[j] = oj := by rw [Array.getElem?_eq_getElem hj1] at hj; simpa using hj
      have : isDst ops t = true := by
        simp only [isDst, Array.any_eq_true]
        exact ⟨j, hj1, by rw [hje, hd]; simp⟩
      rw [ht] at this; cases this
    · rw [Nat.zero_add]
      have hj' : ops[j]? = some o := by simpa using hj
      exact h6 j o hj' (hall j (Array.getElem?_eq_some_iff.1 hj').1)
  · refine ⟨by simp, ?_, rfl, rfl, fun _ _ => rfl, ⟨rfl, rfl, rfl, Nat.le_refl _, fun _ _ => rfl⟩, ?_⟩
    · intro j oj hj hl
      have hj1 : j < ops.size := (Array.getElem?_eq_some_iff.1 hj).1
      rw [Array.getElem?_replicate, if_pos hj1] at hl; cases hl
    · intro j oj hj hl
      have hj1 : j < ops.size := (Array.getElem?_eq_some_iff.1 hj).1
      rw [Array.getElem?_replicate, if_pos hj1] at hl; cases hl
  · rw [Array.toList_replicate, List.count_replicate_self]; exact Nat.le_refl _
end
end Go.Esc
