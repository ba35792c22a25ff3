/- A law for regions that draw their order and whose last operation, which comes behind all others, writes. -/
import Derived.Test.YtfpepaeoclmcpaaGreatRegion
namespace Go.Esc
open Go Go.RowKit
/-- Each operation but the last is awaited by a later one. -/
def usedAll (ops : Array Oper) : Bool := (List.range (ops.size - 1)).all fun i => (List.range ops.size).any fun j => decide (i < j) && ((ops[j]?).map fun o => o.after.any fun e => Region.binds .any e && e.on == i).getD false
section
variable {P : Program} {ops : Array Oper} {Q : Exit → Act → World → Prop}
def Closed (ops : Array Oper) (listed : Array Bool) : Prop := ∀ (j : Nat) (oj : Oper), ops[j]? = some oj → listed[j]? = some true → ∀ e ∈ oj.after.toList, Region.binds .any e = true → listed[e.on]? = some true
theorem all_listed (hU : usedAll ops = true) (listed : Array Bool) (n : Nat) (hn : ops.size = n + 1) (hc : Closed ops listed) (ol : Oper) (hl : ops[n]? = some ol) (hr : ∀ e ∈ ol.after.toList, Region.binds .any e = true → listed[e.on]? = some true) :
    ∀ d i, i < n → n - i = d → listed[i]? = some true := by
  intro d
  induction d using Nat.strongRecOn with
  | _ d ih =>
    intro i hi hd
    simp only [usedAll, List.all_eq_true, List.mem_range, List.any_eq_true, Bool.and_eq_true, decide_eq_true_eq] at hU
    obtain ⟨j, hj, hij, hu⟩ := hU i (by omega)
    rw [Array.getElem?_eq_getElem hj] at hu
    simp only [Option.map_some, Option.getD_some, Array.any_eq_true, Bool.and_eq_true, beq_iff_eq] at hu
    obtain ⟨k, hk, hb, he⟩ := hu
    by_cases hjn : j = n
    · subst hjn
      have : ops[j] = ol := by rw [Array.getElem?_eq_getElem hj] at hl; simpa using hl
      have h2 := hr (ops[j].after[k]) (by rw [← this]; simp) hb
      rw [he] at h2; exact h2
    · have h1 := ih (n - j) (by omega) j (by omega) rfl
      have h2 := hc j ops[j] (Array.getElem?_eq_getElem hj) h1 (ops[j].after[k]) (by simp) hb
      rw [he] at h2; exact h2
theorem AllOps.mk' {F : Nat → Oper → Prop} : ∀ (l : List Oper) (n : Nat), (∀ i o, l[i]? = some o → F (n + i) o) → AllOps F n l := by
  intro l
  induction l with
  | nil => intro _ _; trivial
  | cons o l ih =>
    intro n h
    refine ⟨by simpa using h 0 o rfl, ih (n+1) fun i o' hi => ?_⟩
    have := h (i+1) o' (by simpa using hi)
    rwa [Nat.add_assoc, Nat.add_comm 1 i]
theorem region_last (id : Nat) (Φs : List (Value → World → Prop)) {a : Act} {w : World} (n : Nat) (ol : Oper) (hn : ops.size = n + 1) (hlast : ops[n]? = some ol)
    (hm : P.follows .mixedOrders = true) (hE : edgesBack ops = true) (hD : dstsApart ops = true) (hU : usedAll ops = true)
    [hΦ : AllStable Φs]
    (hsize : (ops.toList.all fun o => match o.dst with | some d => decide (d < a.tmps.size) | none => true) = true)
    (hop : AllOps (OpOk P ops Q Φs a w) 0 (ops.toList.take n))
    (hend : ∀ (a' : Act) (w' : World), a'.defers = a.defers → a'.tmps.size = a.tmps.size → (∀ t : Nat, isDst ops t = false → a'.tmps[t]?.getD undef = a.tmps[t]?.getD undef) → Pu w w' →
      AllOps (fun j oj => Φs.getD j Any (match oj.dst with | some d => a'.tmps[d]?.getD undef | none => undef) w') 0 (ops.toList.take n) → wpOp P ops Q n (fun a'' w'' => Q .normal a'' w'') a' w') :
    (Code.region id ops true).wp P Q a w := by
  refine wp_region_any hm ?_
  have hkeep : ∀ (i : Nat) (v : Value) (w w' : World), Φs.getD i Any v w → Pu w w' → Φs.getD i Any v w' := by
    intro i v w w' h hp
    by_cases hi : i < Φs.length
    · have e : Φs.getD i Any = Φs[i] := by simp [List.getD, List.getElem?_eq_getElem hi]
      rw [e] at h ⊢
      exact hΦ.keep _ (List.getElem_mem hi) _ _ _ h hp
    · have e : Φs.getD i Any = Any := by simp [List.getD, List.getElem?_eq_none (by omega : Φs.length ≤ i)]
      rw [e]; trivial
  let slot : Act → Option Tmp → Value := fun a' d => match d with | some d => a'.tmps[d]?.getD undef | none => undef
  let Inv : Array Bool → Act → World → Prop := fun listed a' w' => listed.size = ops.size ∧
    ((listed[n]? = some false ∧ Closed ops listed ∧ a'.defers = a.defers ∧ a'.tmps.size = a.tmps.size ∧
      (∀ t : Nat, isDst ops t = false → a'.tmps[t]?.getD undef = a.tmps[t]?.getD undef) ∧ Pu w w' ∧
      ∀ (j : Nat) (oj : Oper), ops[j]? = some oj → listed[j]? = some true → Φs.getD j Any (slot a' oj.dst) w') ∨
     ((∀ i, i < ops.size → listed[i]? = some true) ∧ Q .normal a' w'))
  refine wpAny_inv .any Inv ?_ ?_ (fun _ _ _ h => h.1) ops.size _ a _ ?_ ?_
  · intro listed a' w' ⟨h1, h⟩ i hi
    simp only [Region.ready, List.mem_filter, List.mem_range, Bool.and_eq_true, Bool.not_eq_true'] at hi
    obtain ⟨hi1, hi2, hi3⟩ := hi
    have ho : ops[i]? = some ops[i] := Array.getElem?_eq_getElem hi1
    have hlt : i < listed.size := by omega
    have hif : listed[i]? = some false := by
      simp [Array.getD_eq_getD_getElem?, Array.getElem?_eq_getElem hlt] at hi2
      rw [Array.getElem?_eq_getElem hlt, hi2]
    have hi4 : ∀ e ∈ ops[i].after.toList, Region.binds .any e = true → listed[e.on]? = some true := by
      intro e he hb
      rw [ho] at hi3
      simp only [Option.map_some, Option.getD_some, Array.all_eq_true_iff_forall_mem] at hi3
      have h7 := hi3 e (by simpa using he)
      simp only [hb, Bool.not_true, Bool.false_or] at h7
      cases hq : listed[e.on]? with
      | none => simp [Array.getD_eq_getD_getElem?, hq] at h7
      | some x => simp [Array.getD_eq_getD_getElem?, hq] at h7; rw [h7]
    rcases h with ⟨hnf, hcl, h2, h3, h4, h5, h6⟩ | ⟨hall, hQ⟩
    · by_cases hin : i = n
      · subst hin
        have hall := all_listed hU listed i hn hcl ops[i] ho hi4
        refine wpOp_mono ?_ (hend a' w' h2 h3 h4 h5 (AllOps.mk' _ _ fun j o hj => ?_))
        · intro a'' w'' hQ
          refine ⟨by simp [h1], .inr ⟨fun j hj => ?_, hQ⟩⟩
          by_cases hji : i = j
          · subst hji; rw [Array.getElem?_setIfInBounds_self, if_pos hlt]
          · rw [Array.getElem?_setIfInBounds_ne hji]; exact hall _ j (by omega) rfl
        · rw [Nat.zero_add]
          rw [List.getElem?_take] at hj
          split at hj
          · next hji =>
            have := h6 j o (by simpa using hj) (hall _ j hji rfl)
            exact this
          · cases hj
      · have hk := hop.get i ops[i] (by rw [List.getElem?_take, if_pos (by omega)]; simp)
        rw [Nat.zero_add] at hk
        have hk2 := hk a' w' h4 h5 (fun e hm hb => by
          have h8 := hi4 e hm hb
          have hlt2 : e.on < ops.size := by
            have := (Array.getElem?_eq_some_iff.1 h8).1; omega
          have h9 := h6 e.on ops[e.on] (Array.getElem?_eq_getElem hlt2) h8
          rw [Array.getElem?_eq_getElem hlt2]
          exact h9)
        refine wpOp_mono ?_ hk2
        rintro a'' w'' ⟨v, rfl, hv, hR⟩
        refine ⟨by simp [h1], .inl ⟨?_, ?_, ?_, ?_, ?_, h5.trans hR, ?_⟩⟩
        · rw [Array.getElem?_setIfInBounds_ne hin]; exact hnf
        · intro j oj hj hl e he hb
          by_cases hij : i = j
          · subst hij
            rw [ho] at hj; cases hj
            have h8 := hi4 e he hb
            by_cases hie : i = e.on
            · rw [← hie] at h8; rw [hif] at h8; cases h8
            · rw [Array.getElem?_setIfInBounds_ne hie]; exact h8
          · have hl' : listed[j]? = some true := by rw [Array.getElem?_setIfInBounds_ne hij] at hl; exact hl
            have h8 := hcl j oj hj hl' e he hb
            by_cases hie : i = e.on
            · rw [← hie] at h8; rw [hif] at h8; cases h8
            · rw [Array.getElem?_setIfInBounds_ne hie]; exact h8
        · cases ops[i].dst <;> exact h2
        · cases ops[i].dst <;> simp [Act.put, h3]
        · intro t ht
          rw [← h4 t ht]
          have hne0 : ops[i].dst ≠ some t := by
            intro e
            have : isDst ops t = true := by
              simp only [isDst, Array.any_eq_true]
              exact ⟨i, hi1, by rw [e]; simp⟩
            rw [ht] at this; cases this
          cases hd : ops[i].dst with
          | none => rfl
          | some d =>
            have hne : d ≠ t := fun e => hne0 (by rw [hd, e])
            simp [Act.put, Array.getElem?_setIfInBounds_ne hne]
        · intro j oj hj hl
          by_cases hij : i = j
          · subst hij
            rw [ho] at hj; cases hj
            cases hd : ops[i].dst with
            | none => rw [hd] at hv; exact hv
            | some d =>
              rw [hd] at hv
              have hdl : d < a'.tmps.size := by
                rw [h3]
                have := List.all_eq_true.1 hsize ops[i] (by simp)
                rw [hd] at this; simpa using this
              simpa [slot, Act.put, Array.getElem?_setIfInBounds_self, hdl] using hv
          · have hl' : listed[j]? = some true := by rw [Array.getElem?_setIfInBounds_ne hij] at hl; exact hl
            have hold := hkeep j _ _ _ (h6 j oj hj hl') hR
            have hsame : slot (a'.put ops[i].dst v) oj.dst = slot a' oj.dst := by
              cases hd : ops[i].dst with
              | none => rfl
              | some d =>
                cases hd2 : oj.dst with
                | none => rfl
                | some d2 =>
                  have hne : d ≠ d2 := by
                    simp only [dstsApart, List.all_eq_true, List.mem_range] at hD
                    have hj1 : j < ops.size := (Array.getElem?_eq_some_iff.1 hj).1
                    have := hD i hi1 j hj1
                    rw [ho, hj] at this
                    simp [hd, hd2, hij] at this
                    exact this
                  simp [slot, Act.put, Array.getElem?_setIfInBounds_ne hne]
            rw [hsame]; exact hold
    · have := hall i hi1
      rw [hif] at this; cases this
  · intro listed a' w' ⟨h1, h⟩ hr
    have hall := ready_nil hE listed h1 hr
    rcases h with ⟨hnf, _⟩ | ⟨_, hQ⟩
    · have := hall n (by omega)
      rw [hnf] at this; cases this
    · exact hQ
  · refine ⟨by simp, .inl ⟨?_, ?_, rfl, rfl, fun _ _ => rfl, ⟨rfl, rfl, rfl, Nat.le_refl _, fun _ _ => rfl⟩, ?_⟩⟩
    · rw [Array.getElem?_replicate, if_pos (by omega)]
    · intro j oj hj hl
      have hj1 : j < ops.size := (Array.getElem?_eq_some_iff.1 hj).1
      rw [Array.getElem?_replicate, if_pos hj1] at hl; cases hl
    · intro j oj hj hl
      have hj1 : j < ops.size := (Array.getElem?_eq_some_iff.1 hj).1
      rw [Array.getElem?_replicate, if_pos hj1] at hl; cases hl
  · rw [Array.toList_replicate, List.count_replicate_self]; exact Nat.le_refl _
theorem op_run {K : Act → World → Prop} {i : Nat} {o : Oper} {a' : Act} {w' w'' : World} {v : Value} (ho : ops[i]? = some o) (hw : Region.wanted o (yielded ops a'.tmps) = true)
    (hrun : (execOp a'.eval o).run P w' = .ok (.value v) w'') (hK : K (a'.put o.dst v) w'') : wpOp P ops Q i K a' w' := by
  unfold wpOp
  simp only [ho, hw, if_true]
  refine .inl ?_
  unfold Oper.wp
  rw [hrun]
  exact hK
theorem op_done {K : Act → World → Prop} {i : Nat} {o : Oper} {a' : Act} {w' w'' : World} (ho : ops[i]? = some o) (hw : Region.wanted o (yielded ops a'.tmps) = true)
    (hrun : (execOp a'.eval o).run P w' = .ok .skip w'') (hK : K (a'.put o.dst undef) w'') : wpOp P ops Q i K a' w' := by
  unfold wpOp
  simp only [ho, hw, if_true]
  refine .inl ?_
  unfold Oper.wp
  rw [hrun]
  exact hK
end
end Go.Esc
