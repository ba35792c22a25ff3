/- A law for regions that draw their order, of whose operations one changes a block and the last comes behind all others. -/
import Derived.Test.YtfpepaeoclmcpaaGreatRegionW
import Derived.Test.YtfpepaeoclmcpaaGreatBut
namespace Go.Esc
open Go Go.RowKit
class StableB (g : Nat) (Φ : Value → World → Prop) : Prop where
  keep : ∀ v w w', Φ v w → But g w w' → Φ v w'
class AllStableB (g : Nat) (l : List (Value → World → Prop)) : Prop where
  keep : ∀ Φ ∈ l, ∀ v w w', Φ v w → But g w w' → Φ v w'
instance (g : Nat) (v : Value) : StableB g (Is v) := ⟨fun _ _ _ h _ => h⟩
instance (g : Nat) : StableB g Any := ⟨fun _ _ _ _ _ => trivial⟩
instance (g : Nat) : AllStableB g [] := ⟨fun _ h => by cases h⟩
instance (g : Nat) (Φ : Value → World → Prop) (l : List (Value → World → Prop)) [h : StableB g Φ] [k : AllStableB g l] : AllStableB g (Φ :: l) := ⟨fun Ψ hm => by
  rcases List.mem_cons.1 hm with rfl | hm
  · exact h.keep
  · exact k.keep Ψ hm⟩
def isDstL (l : List Oper) (t : Nat) : Bool := l.any fun o => o.dst == some t
theorem agree_initL {l : List Oper} {A B : Array Value} (ds : List Nat) (hsz : A.size = B.size) (h : ∀ t : Nat, isDstL l t = false → A[t]?.getD undef = B[t]?.getD undef)
    (hk : (l.all fun o => match o.dst with | some d => ds.contains d | none => true) = true) : Agree A B ds := by
  refine ⟨hsz, fun t ht => h t ?_⟩
  cases hd : isDstL l t with
  | false => rfl
  | true =>
    simp only [isDstL, List.any_eq_true] at hd
    obtain ⟨o, ho, he⟩ := hd
    have := List.all_eq_true.1 hk o ho
    have he' : o.dst = some t := by simpa using he
    rw [he'] at this
    simp only at this
    rw [ht] at this; cases this
section
variable {P : Program} {ops : Array Oper} {Q : Exit → Act → World → Prop}
/-- What is asked of an operation; that of number m may change block g. -/
def OpOkG (P : Program) (ops : Array Oper) (Q : Exit → Act → World → Prop) (g m n : Nat) (Φs : List (Value → World → Prop)) (a : Act) (w : World) (i : Nat) (o : Oper) : Prop :=
  ∀ (a' : Act) (w' : World), (∀ t : Nat, isDstL (ops.toList.take n) t = false → a'.tmps[t]?.getD undef = a.tmps[t]?.getD undef) → (bif Nat.beq i m then Pu w w' else But g w w') →
    (∀ e ∈ o.after.toList, Region.binds .any e = true → Φs.getD e.on Any (match (ops[e.on]?).bind (·.dst) with | some d => a'.tmps[d]?.getD undef | none => undef) w') →
    wpOp P ops Q i (fun a'' w'' => ∃ v, a'' = a'.put o.dst v ∧ Φs.getD i Any (if o.dst.isSome then v else undef) w'' ∧ (bif Nat.beq i m then But g w' w'' else Pu w' w'')) a' w'
theorem region_writer (id : Nat) (g : Nat) (Φ1 : List (Value → World → Prop)) (Φm : Value → World → Prop) (Φ2 : List (Value → World → Prop)) {a : Act} {w : World} (n : Nat) (ol : Oper) (hn : ops.size = n + 1) (hlast : ops[n]? = some ol)
    (hm : P.follows .mixedOrders = true) (hE : edgesBack ops = true) (hD : dstsApart ops = true) (hU : usedAll ops = true)
    [hΦ1 : AllStableB g Φ1] [hΦm : Stable Φm] [hΦ2 : AllStableB g Φ2]
    (hsize : (ops.toList.all fun o => match o.dst with | some d => decide (d < a.tmps.size) | none => true) = true)
    (hop : AllOps (OpOkG P ops Q g Φ1.length n (Φ1 ++ Φm :: Φ2) a w) 0 (ops.toList.take n))
    (hend : ∀ (a' : Act) (w' : World), a'.defers = a.defers → a'.tmps.size = a.tmps.size → (∀ t : Nat, isDstL (ops.toList.take n) t = false → a'.tmps[t]?.getD undef = a.tmps[t]?.getD undef) → But g w w' →
      AllOps (fun j oj => (Φ1 ++ Φm :: Φ2).getD j Any (match oj.dst with | some d => a'.tmps[d]?.getD undef | none => undef) w') 0 (ops.toList.take n) → wpOp P ops Q n (fun a'' w'' => Q .normal a'' w'') a' w') :
    (Code.region id ops true).wp P Q a w := by
  refine wp_region_any hm ?_
  obtain ⟨Φs, hΦs⟩ : ∃ l, l = Φ1 ++ Φm :: Φ2 := ⟨_, rfl⟩
  obtain ⟨m, hmm⟩ : ∃ m, m = Φ1.length := ⟨_, rfl⟩
  rw [← hΦs, ← hmm] at hop
  rw [← hΦs] at hend
  have hkeepB : ∀ (i : Nat), i ≠ m → ∀ (v : Value) (w w' : World), Φs.getD i Any v w → But g w w' → Φs.getD i Any v w' := by
    intro i him v w w' h hp
    subst hΦs; subst hmm
    by_cases hi : i < Φ1.length
    · have e : (Φ1 ++ Φm :: Φ2).getD i Any = Φ1[i] := by simp [List.getD, List.getElem?_append_left hi, List.getElem?_eq_getElem hi]
      rw [e] at h ⊢
      exact hΦ1.keep _ (List.getElem_mem hi) _ _ _ h hp
    · obtain ⟨j, rfl⟩ : ∃ j, i = Φ1.length + 1 + j := ⟨i - Φ1.length - 1, by omega⟩
      have e0 : (Φ1 ++ Φm :: Φ2).getD (Φ1.length + 1 + j) Any = Φ2.getD j Any := by
        rw [List.getD, List.getElem?_append_right (by omega), show Φ1.length + 1 + j - Φ1.length = j + 1 by omega, List.getElem?_cons_succ]; rfl
      rw [e0] at h ⊢
      by_cases hj : j < Φ2.length
      · have e : Φ2.getD j Any = Φ2[j] := by simp [List.getD, List.getElem?_eq_getElem hj]
        rw [e] at h ⊢
        exact hΦ2.keep _ (List.getElem_mem hj) _ _ _ h hp
      · have e : Φ2.getD j Any = Any := by simp [List.getD, List.getElem?_eq_none (by omega : Φ2.length ≤ j)]
        rw [e]; trivial
  have hkeep : ∀ (i : Nat) (v : Value) (w w' : World), Φs.getD i Any v w → Pu w w' → Φs.getD i Any v w' := by
    intro i v w w' h hp
    by_cases him : i = m
    · subst hΦs; subst hmm; subst him
      have e : (Φ1 ++ Φm :: Φ2).getD Φ1.length Any = Φm := by simp [List.getD]
      rw [e] at h ⊢
      exact hΦm.keep _ _ _ h hp
    · exact hkeepB i him v w w' h (But.pu hp)
  let slot : Act → Option Tmp → Value := fun a' d => match d with | some d => a'.tmps[d]?.getD undef | none => undef
  let Inv : Array Bool → Act → World → Prop := fun listed a' w' => listed.size = ops.size ∧
    ((listed[n]? = some false ∧ Closed ops listed ∧ a'.defers = a.defers ∧ a'.tmps.size = a.tmps.size ∧
      (∀ t : Nat, isDstL (ops.toList.take n) t = false → a'.tmps[t]?.getD undef = a.tmps[t]?.getD undef) ∧ (But g w w' ∧ (listed[m]? = some false → Pu w w')) ∧
      ∀ (j : Nat) (oj : Oper), ops[j]? = some oj → listed[j]? = some true → Φs.getD j Any (slot a' oj.dst) w') ∨
     ((∀ i, i < ops.size → listed[i]? = some true) ∧ Q .normal a' w'))
  refine wpAny_inv .any Inv ?_ ?_ (fun _ _ _ h => h.1) ops.size _ a _ ?_ ?_
  · intro listed a' w' ⟨h1, h⟩ i hi
    simp only [Region.ready, List.mem_filter, List.mem_range, Bool.and_eq_true, Bool.not_eq_true'] at hi
    obtain ⟨hi1, hi2, hi3⟩ := hi
    have ho : ops[i]? = some ops[i] := Array.getElem?_eq_getElem hi1
    have hlt : i < listed.size := by omega
    have hif : listed[i]? = some false := by
      simp [Array.getD_eq_getD_getElem?, Array.getElem?_eq_getElem hlt] at hi2
      rw [Array.getElem?_eq_getElem hlt, hi2]
    have hi4 : ∀ e ∈ ops[i].after.toList, Region.binds .any e = true → listed[e.on]? = some true := by
      intro e he hb
      rw [ho] at hi3
      simp only [Option.map_some, Option.getD_some, Array.all_eq_true_iff_forall_mem] at hi3
      have h7 := hi3 e (by simpa using he)
      simp only [hb, Bool.not_true, Bool.false_or] at h7
      cases hq : listed[e.on]? with
      | none => simp [Array.getD_eq_getD_getElem?, hq] at h7
      | some x => simp [Array.getD_eq_getD_getElem?, hq] at h7; rw [h7]
    rcases h with ⟨hnf, hcl, h2, h3, h4, h5, h6⟩ | ⟨hall, hQ⟩
    · by_cases hin : i = n
      · subst hin
        have hall := all_listed hU listed i hn hcl ops[i] ho hi4
        refine wpOp_mono ?_ (hend a' w' h2 h3 h4 h5.1 (AllOps.mk' _ _ fun j o hj => ?_))
        · intro a'' w'' hQ
          refine ⟨by simp [h1], .inr ⟨fun j hj => ?_, hQ⟩⟩
          by_cases hji : i = j
          · subst hji; rw [Array.getElem?_setIfInBounds_self, if_pos hlt]
          · rw [Array.getElem?_setIfInBounds_ne hji]; exact hall _ j (by omega) rfl
        · rw [Nat.zero_add]
          rw [List.getElem?_take] at hj
          split at hj
          · next hji =>
            have := h6 j o (by simpa using hj) (hall _ j hji rfl)
            exact this
          · cases hj
      · have hk := hop.get i ops[i] (by rw [List.getElem?_take, if_pos (by omega)]; simp)
        rw [Nat.zero_add] at hk
        have hk2 := hk a' w' h4 (by
          by_cases him : i = m
          · have : Nat.beq i m = true := by rw [him]; exact Nat.beq_refl m
            rw [this]; exact h5.2 (by rw [← him]; exact hif)
          · have : Nat.beq i m = false := by cases h : Nat.beq i m with | false => rfl | true => exact absurd (Nat.eq_of_beq_eq_true h) him
            rw [this]; exact h5.1) (fun e hm hb => by
          have h8 := hi4 e hm hb
          have hlt2 : e.on < ops.size := by
            have := (Array.getElem?_eq_some_iff.1 h8).1; omega
          have h9 := h6 e.on ops[e.on] (Array.getElem?_eq_getElem hlt2) h8
          rw [Array.getElem?_eq_getElem hlt2]
          exact h9)
        refine wpOp_mono ?_ hk2
        rintro a'' w'' ⟨v, rfl, hv, hR0⟩
        have hR : But g w' w'' := by
          cases h : Nat.beq i m with
          | true => rw [h] at hR0; exact hR0
          | false => rw [h] at hR0; exact But.pu hR0
        have hR1 : i ≠ m → Pu w' w'' := by
          intro him
          have : Nat.beq i m = false := by cases h : Nat.beq i m with | false => rfl | true => exact absurd (Nat.eq_of_beq_eq_true h) him
          rw [this] at hR0; exact hR0
        refine ⟨by simp [h1], .inl ⟨?_, ?_, ?_, ?_, ?_, ⟨h5.1.trans hR, ?_⟩, ?_⟩⟩
        · rw [Array.getElem?_setIfInBounds_ne hin]; exact hnf
        · intro j oj hj hl e he hb
          by_cases hij : i = j
          · subst hij
            rw [ho] at hj; cases hj
            have h8 := hi4 e he hb
            by_cases hie : i = e.on
            · rw [← hie] at h8; rw [hif] at h8; cases h8
            · rw [Array.getElem?_setIfInBounds_ne hie]; exact h8
          · have hl' : listed[j]? = some true := by rw [Array.getElem?_setIfInBounds_ne hij] at hl; exact hl
            have h8 := hcl j oj hj hl' e he hb
            by_cases hie : i = e.on
            · rw [← hie] at h8; rw [hif] at h8; cases h8
            · rw [Array.getElem?_setIfInBounds_ne hie]; exact h8
        · cases ops[i].dst <;> exact h2
        · cases ops[i].dst <;> simp [Act.put, h3]
        · intro t ht
          rw [← h4 t ht]
          have hne0 : ops[i].dst ≠ some t := by
            intro e
            have : isDstL (ops.toList.take n) t = true := by
              refine List.any_eq_true.2 ⟨ops[i], ?_, by rw [e]; simp⟩
              refine List.mem_iff_getElem.2 ⟨i, by simp; omega, by simp⟩
            rw [ht] at this; cases this
          cases hd : ops[i].dst with
          | none => rfl
          | some d =>
            have hne : d ≠ t := fun e => hne0 (by rw [hd, e])
            simp [Act.put, Array.getElem?_setIfInBounds_ne hne]
        · intro hl
          by_cases him : i = m
          · rw [him, Array.getElem?_setIfInBounds_self, if_pos (by omega)] at hl; cases hl
          · rw [Array.getElem?_setIfInBounds_ne him] at hl; exact (h5.2 hl).trans (hR1 him)
        · intro j oj hj hl
          by_cases hij : i = j
          · subst hij
            rw [ho] at hj; cases hj
            cases hd : ops[i].dst with
            | none => rw [hd] at hv; exact hv
            | some d =>
              rw [hd] at hv
              have hdl : d < a'.tmps.size := by
                rw [h3]
                have := List.all_eq_true.1 hsize ops[i] (by simp)
                rw [hd] at this; simpa using this
              simpa [slot, Act.put, Array.getElem?_setIfInBounds_self, hdl] using hv
          · have hl' : listed[j]? = some true := by rw [Array.getElem?_setIfInBounds_ne hij] at hl; exact hl
            have hold : Φs.getD j Any (slot a' oj.dst) w'' := by
              by_cases him : i = m
              · exact hkeepB j (fun e => hij (him.trans e.symm)) _ _ _ (h6 j oj hj hl') hR
              · exact hkeep j _ _ _ (h6 j oj hj hl') (hR1 him)
            have hsame : slot (a'.put ops[i].dst v) oj.dst = slot a' oj.dst := by
              cases hd : ops[i].dst with
              | none => rfl
              | some d =>
                cases hd2 : oj.dst with
                | none => rfl
                | some d2 =>
                  have hne : d ≠ d2 := by
                    simp only [dstsApart, List.all_eq_true, List.mem_range] at hD
                    have hj1 : j < ops.size := (Array.getElem?_eq_some_iff.1 hj).1
                    have := hD i hi1 j hj1
                    rw [ho, hj] at this
                    simp [hd, hd2, hij] at this
                    exact this
                  simp [slot, Act.put, Array.getElem?_setIfInBounds_ne hne]
            rw [hsame]; exact hold
    · have := hall i hi1
      rw [hif] at this; cases this
  · intro listed a' w' ⟨h1, h⟩ hr
    have hall := ready_nil hE listed h1 hr
    rcases h with ⟨hnf, _⟩ | ⟨_, hQ⟩
    · have := hall n (by omega)
      rw [hnf] at this; cases this
    · exact hQ
  · refine ⟨by simp, .inl ⟨?_, ?_, rfl, rfl, fun _ _ => rfl, ⟨⟨rfl, rfl, rfl, Nat.le_refl _, fun _ _ _ => rfl⟩, fun _ => ⟨rfl, rfl, rfl, Nat.le_refl _, fun _ _ => rfl⟩⟩, ?_⟩⟩
    · rw [Array.getElem?_replicate, if_pos (by omega)]
    · intro j oj hj hl
      have hj1 : j < ops.size := (Array.getElem?_eq_some_iff.1 hj).1
      rw [Array.getElem?_replicate, if_pos hj1] at hl; cases hl
    · intro j oj hj hl
      have hj1 : j < ops.size := (Array.getElem?_eq_some_iff.1 hj).1
      rw [Array.getElem?_replicate, if_pos hj1] at hl; cases hl
  · rw [Array.toList_replicate, List.count_replicate_self]; exact Nat.le_refl _
theorem op_callB {g : Nat} {Φ : Value → World → Prop} {i : Nat} {o : Oper} {a' : Act} {w' : World} {f : FuncId} {args : Array Value} (ho : ops[i]? = some o) (hw : Region.wanted o (yielded ops a'.tmps) = true)
    (hrun : (execOp a'.eval o).run P w' = .ok (.enter f args) w') (hc : Calls P f args w' fun e w'' => ∃ v, e = .returned v ∧ Φ (if o.dst.isSome then v else undef) w'' ∧ But g w' w'') :
    wpOp P ops Q i (fun a'' w'' => ∃ v, a'' = a'.put o.dst v ∧ Φ (if o.dst.isSome then v else undef) w'' ∧ But g w' w'') a' w' := by
  unfold wpOp
  simp only [ho, hw, if_true]
  refine .inl ?_
  unfold Oper.wp
  rw [hrun, Oper.upon_enter]
  refine hc.mono ?_
  rintro e w'' ⟨v, rfl, hφ, hp⟩
  exact ⟨v, rfl, hφ, hp⟩
theorem op_callK {K : Act → World → Prop} {i : Nat} {o : Oper} {a' : Act} {w' : World} {f : FuncId} {args : Array Value} (ho : ops[i]? = some o) (hw : Region.wanted o (yielded ops a'.tmps) = true)
    (hrun : (execOp a'.eval o).run P w' = .ok (.enter f args) w') (hc : Calls P f args w' fun e w'' => ∃ v, e = .returned v ∧ K (a'.put o.dst v) w'') : wpOp P ops Q i K a' w' := by
  unfold wpOp
  simp only [ho, hw, if_true]
  refine .inl ?_
  unfold Oper.wp
  rw [hrun, Oper.upon_enter]
  refine hc.mono ?_
  rintro e w'' ⟨v, rfl, hK⟩
  exact hK
/-- The value is v, and a row is kept. -/
def IsAt (v : Value) (g : Nat) (e : TypeId) (xs : List Value) : Value → World → Prop := fun u w => u = v ∧ Row w g e xs
instance (v : Value) (g : Nat) (e : TypeId) (xs : List Value) : Stable (IsAt v g e xs) := ⟨fun _ _ _ h hp => ⟨h.1, h.2.pu hp⟩⟩
/-- A slice of a new row, which is not block g. -/
def IsRowN (g : Nat) (e : TypeId) (n : Nat) (xs : List Value) : Value → World → Prop := fun v w => ∃ k cap, v = .slice (some ⟨k, 0, none⟩) n cap ∧ (Row w k e xs ∧ k ≠ g)
instance (g : Nat) (e : TypeId) (n : Nat) (xs : List Value) : StableB g (IsRowN g e n xs) := ⟨fun _ _ _ h hp => by obtain ⟨k, cap, hv, hr, hk⟩ := h; exact ⟨k, cap, hv, hp.row hr hk, hk⟩⟩
theorem op_valB {g : Nat} {Φ : Value → World → Prop} {i : Nat} {o : Oper} {a' : Act} {w' w'' : World} {v : Value} (ho : ops[i]? = some o) (hw : Region.wanted o (yielded ops a'.tmps) = true)
    (hrun : (execOp a'.eval o).run P w' = .ok (.value v) w'') (hφ : Φ (if o.dst.isSome then v else undef) w'') (hp : But g w' w'') :
    wpOp P ops Q i (fun a'' w'' => ∃ v, a'' = a'.put o.dst v ∧ Φ (if o.dst.isSome then v else undef) w'' ∧ But g w' w'') a' w' := by
  unfold wpOp
  simp only [ho, hw, if_true]
  refine .inl ?_
  unfold Oper.wp
  rw [hrun]
  exact ⟨v, rfl, hφ, hp⟩
/-- A slice of a row from block base on. -/
def IsRowF (base : Nat) (e : TypeId) (n : Nat) (xs : List Value) : Value → World → Prop := fun v w => ∃ k cap, v = .slice (some ⟨k, 0, none⟩) n cap ∧ (Row w k e xs ∧ base ≤ k)
instance (base : Nat) (e : TypeId) (n : Nat) (xs : List Value) : Stable (IsRowF base e n xs) := ⟨fun _ _ _ h hp => by obtain ⟨k, cap, hv, hr, hk⟩ := h; exact ⟨k, cap, hv, hr.pu hp, hk⟩⟩
theorem But.toPu {g : Nat} {w w' : World} (h : But g w w') (hg : w.heap.size ≤ g) : Pu w w' := ⟨h.os, h.tape, h.output, h.size, fun k hk => h.block k hk (by omega)⟩
end
end Go.Esc
