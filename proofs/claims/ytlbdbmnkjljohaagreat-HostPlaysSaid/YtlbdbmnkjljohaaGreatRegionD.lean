/- A law for regions that draw their order, of whose operations two append to one list, that is new, and the last comes behind all others. -/
import Derived.Test.YtlbdbmnkjljohaaGreatT17
import Derived.Maps.AppendAt
import Derived.Laws.AppendOwnNone
namespace Go.Esc
open Go Go.RowKit
/-- Only operation m awaits operation b (of those but the last). -/
def onlyM (ops : Array Oper) (b m : Nat) : Bool := (List.range ops.size).all fun i => Nat.ble m i || ((ops[i]?).map fun o => o.after.toList.all fun e => !(Region.binds .any e) || !(e.on == b)).getD true
theorem onlyM_at {ops : Array Oper} {b m i : Nat} (h : onlyM ops b m = true) (hi : i < ops.size) {o : Oper} (ho : ops[i]? = some o) {e : _} (he : e ∈ o.after.toList) (hb : Region.binds .any e = true) (heb : e.on = b) : m ≤ i := by
  simp only [onlyM, List.all_eq_true, List.mem_range, Bool.or_eq_true] at h
  rcases h i hi with h1 | h1
  · exact Nat.le_of_ble_eq_true h1
  · rw [ho] at h1
    simp only [Option.map_some, Option.getD_some, List.all_eq_true, Bool.or_eq_true] at h1
    rcases h1 e he with h2 | h2
    · rw [hb] at h2; cases h2
    · simp [heb] at h2
/-- What does not speak of the memory. -/
def FreeΦ (Φ : Value → World → Prop) : Prop := ∀ v w w', Φ v w → Φ v w'
def AllFree (b m : Nat) : Nat → List (Value → World → Prop) → Prop
  | _, [] => True
  | k, Φ :: l => ((k != b && k != m) = true → FreeΦ Φ) ∧ AllFree b m (k+1) l
theorem AllFree.get {b m : Nat} : ∀ {l : List (Value → World → Prop)} {k : Nat}, AllFree b m k l → ∀ i Φ, l[i]? = some Φ → (k + i != b && k + i != m) = true → FreeΦ Φ
  | [], _, _, i, Φ, h, _ => by simp at h
  | Ψ :: l, k, hf, 0, Φ, h, hc => by
    simp at h
    subst h
    exact hf.1 (by simpa using hc)
  | Ψ :: l, k, hf, i+1, Φ, h, hc => AllFree.get hf.2 i Φ (by simpa using h) (by rw [show k + 1 + i = k + (i + 1) by omega]; exact hc)
theorem free_is (v : Value) : FreeΦ (Is v) := fun _ _ _ h => h
theorem gone (Φs : List (Value → World → Prop)) {k b : Nat} (h : k = b) (v : Value) (w : World) : (Φs.set b Any).getD k Any v w := by
  subst h
  by_cases hl9 : k < Φs.length
  · rw [List.getD, List.getElem?_set_self hl9]; trivial
  · rw [List.getD, List.getElem?_eq_none (by simp; omega)]; trivial
section
variable {P : Program} {ops : Array Oper} {Q : Exit → Act → World → Prop}
/-- What is asked of an operation; that of number m may change what is new. -/
def OpOkD (P : Program) (ops : Array Oper) (Q : Exit → Act → World → Prop) (b m n : Nat) (Φs : List (Value → World → Prop)) (a : Act) (w : World) (i : Nat) (o : Oper) : Prop :=
  ∀ (a' : Act) (w' : World), (∀ t : Nat, isDstL (ops.toList.take n) t = false → a'.tmps[t]?.getD undef = a.tmps[t]?.getD undef) → Pu w w' →
    (∀ e ∈ o.after.toList, Region.binds .any e = true → (bif decide (i ≤ m) then Φs else Φs.set b Any).getD e.on Any (match (ops[e.on]?).bind (·.dst) with | some d => a'.tmps[d]?.getD undef | none => undef) w') →
    wpOp P ops Q i (fun a'' w'' => ∃ v, a'' = a'.put o.dst v ∧ Φs.getD i Any (if o.dst.isSome then v else undef) w'' ∧ (bif Nat.beq i m then Below w.heap.size w' w'' else Pu w' w'')) a' w'
theorem region_two (id : Nat) (b m : Nat) (Φs : List (Value → World → Prop)) {a : Act} {w : World} (n : Nat) (ol : Oper) (hn : ops.size = n + 1) (hlast : ops[n]? = some ol)
    (hm : P.follows .mixedOrders = true) (hE : edgesBack ops = true) (hD : dstsApart ops = true) (hU : usedAll ops = true)
    (hbm : b < m) (hBr : onlyM ops b m = true) [hΦ : AllStable Φs] (hfree : AllFree b m 0 Φs)
    (hsize : (ops.toList.all fun o => match o.dst with | some d => decide (d < a.tmps.size) | none => true) = true)
    (hop : AllOps (OpOkD P ops Q b m n Φs a w) 0 (ops.toList.take n))
    (hend : ∀ (a' : Act) (w' : World), a'.defers = a.defers → a'.tmps.size = a.tmps.size → (∀ t : Nat, isDstL (ops.toList.take n) t = false → a'.tmps[t]?.getD undef = a.tmps[t]?.getD undef) → Pu w w' →
      AllOps (fun j oj => (Φs.set b Any).getD j Any (match oj.dst with | some d => a'.tmps[d]?.getD undef | none => undef) w') 0 (ops.toList.take n) → wpOp P ops Q n (fun a'' w'' => Q .normal a'' w'') a' w') :
    (Code.region id ops true).wp P Q a w := by
  refine wp_region_any hm ?_
  have hkeep : ∀ (i : Nat) (v : Value) (w w' : World), Φs.getD i Any v w → Pu w w' → Φs.getD i Any v w' := by
    intro i v w w' h hp
    by_cases hi : i < Φs.length
    · have e : Φs.getD i Any = Φs[i] := by simp [List.getD, List.getElem?_eq_getElem hi]
      rw [e] at h ⊢
      exact hΦ.keep _ (List.getElem_mem hi) _ _ _ h hp
    · have e : Φs.getD i Any = Any := by simp [List.getD, List.getElem?_eq_none (by omega : Φs.length ≤ i)]
      rw [e]; trivial
  have hkeepB : ∀ (i : Nat), i ≠ m → i ≠ b → ∀ (v : Value) (w w' : World), Φs.getD i Any v w → Φs.getD i Any v w' := by
    intro i him hib v w w' h
    by_cases hi : i < Φs.length
    · have e : Φs.getD i Any = Φs[i] := by simp [List.getD, List.getElem?_eq_getElem hi]
      rw [e] at h ⊢
      have := hfree.get i Φs[i] (List.getElem?_eq_getElem hi)
      rw [Nat.zero_add] at this
      exact this (by simp [him, hib]) _ _ _ h
    · have e : Φs.getD i Any = Any := by simp [List.getD, List.getElem?_eq_none (by omega : Φs.length ≤ i)]
      rw [e]; trivial
  let slot : Act → Option Tmp → Value := fun a' d => match d with | some d => a'.tmps[d]?.getD undef | none => undef
  let Inv : Array Bool → Act → World → Prop := fun listed a' w' => listed.size = ops.size ∧
    ((listed[n]? = some false ∧ Closed ops listed ∧ a'.defers = a.defers ∧ a'.tmps.size = a.tmps.size ∧
      (∀ t : Nat, isDstL (ops.toList.take n) t = false → a'.tmps[t]?.getD undef = a.tmps[t]?.getD undef) ∧ Pu w w' ∧
      ∀ (j : Nat) (oj : Oper), ops[j]? = some oj → listed[j]? = some true → (j ≠ b ∨ listed[m]? = some false) → Φs.getD j Any (slot a' oj.dst) w') ∨
     ((∀ i, i < ops.size → listed[i]? = some true) ∧ Q .normal a' w'))
  refine wpAny_inv .any Inv ?_ ?_ (fun _ _ _ h => h.1) ops.size _ a _ ?_ ?_
  · intro listed a' w' ⟨h1, h⟩ i hi
    simp only [Region.ready, List.mem_filter, List.mem_range, Bool.and_eq_true, Bool.not_eq_true'] at hi
    obtain ⟨hi1, hi2, hi3⟩ := hi
    have ho : ops[i]? = some ops[i] := Array.getElem?_eq_getElem hi1
    have hlt : i < listed.size := by omega
    have hif : listed[i]? = some false := by
      simp [Array.getD_eq_getD_getElem?, Array.getElem?_eq_getElem hlt] at hi2
      rw [Array.getElem?_eq_getElem hlt, hi2]
    have hi4 : ∀ e ∈ ops[i].after.toList, Region.binds .any e = true → listed[e.on]? = some true := by
      intro e he hb
      rw [ho] at hi3
      simp only [Option.map_some, Option.getD_some, Array.all_eq_true_iff_forall_mem] at hi3
      have h7 := hi3 e (by simpa using he)
      simp only [hb, Bool.not_true, Bool.false_or] at h7
      cases hq : listed[e.on]? with
      | none => simp [Array.getD_eq_getD_getElem?, hq] at h7
      | some x => simp [Array.getD_eq_getD_getElem?, hq] at h7; rw [h7]
    rcases h with ⟨hnf, hcl, h2, h3, h4, h5, h6⟩ | ⟨hall, hQ⟩
    · by_cases hin : i = n
      · subst hin
        have hall := all_listed hU listed i hn hcl ops[i] ho hi4
        refine wpOp_mono ?_ (hend a' w' h2 h3 h4 h5 (AllOps.mk' _ _ fun j o hj => ?_))
        · intro a'' w'' hQ
          refine ⟨by simp [h1], .inr ⟨fun j hj => ?_, hQ⟩⟩
          by_cases hji : i = j
          · subst hji; rw [Array.getElem?_setIfInBounds_self, if_pos hlt]
          · rw [Array.getElem?_setIfInBounds_ne hji]; exact hall _ j (by omega) rfl
        · rw [Nat.zero_add]
          rw [List.getElem?_take] at hj
          split at hj
          · next hji =>
            by_cases hjb : j = b
            · subst hjb
              by_cases hl9 : j < Φs.length
              · rw [List.getD, List.getElem?_set_self hl9]; trivial
              · rw [List.getD, List.getElem?_eq_none (by simp; omega)]; trivial
            · have := h6 j o (by simpa using hj) (hall _ j hji rfl) (.inl hjb)
              rw [List.getD, List.getElem?_set_ne (fun e => hjb e.symm)]
              exact this
          · cases hj
      · have hk := hop.get i ops[i] (by rw [List.getElem?_take, if_pos (by omega)]; simp)
        rw [Nat.zero_add] at hk
        have hk2 := hk a' w' h4 h5 (fun e hm hb => by
          have h8 := hi4 e hm hb
          have hlt2 : e.on < ops.size := by
            have := (Array.getElem?_eq_some_iff.1 h8).1; omega
          rw [Array.getElem?_eq_getElem hlt2]
          by_cases heb : e.on = b
          · have hmi : m ≤ i := onlyM_at hBr (by omega) ho hm hb heb
            by_cases him : i = m
            · have h9 := h6 e.on ops[e.on] (Array.getElem?_eq_getElem hlt2) h8 (.inr (by rw [← him]; exact hif))
              rw [show decide (i ≤ m) = true from decide_eq_true (by omega)]
              exact h9
            · rw [show decide (i ≤ m) = false from decide_eq_false (by omega)]
              exact gone Φs heb _ _
          · have h9 := h6 e.on ops[e.on] (Array.getElem?_eq_getElem hlt2) h8 (.inl heb)
            cases decide (i ≤ m) with
            | true => exact h9
            | false =>
              simp only [cond_false]
              rw [List.getD, List.getElem?_set_ne (fun e => heb e.symm)]
              exact h9)
        refine wpOp_mono ?_ hk2
        rintro a'' w'' ⟨v, rfl, hv, hR0⟩
        have hR : Pu w w'' := by
          cases h : Nat.beq i m with
          | true => rw [h] at hR0; exact Below.trans h5 hR0
          | false => rw [h] at hR0; exact h5.trans hR0
        have hR1 : i ≠ m → Pu w' w'' := by
          intro him
          have : Nat.beq i m = false := by cases h : Nat.beq i m with | false => rfl | true => exact absurd (Nat.eq_of_beq_eq_true h) him
          rw [this] at hR0; exact hR0
        refine ⟨by simp [h1], .inl ⟨?_, ?_, ?_, ?_, ?_, hR, ?_⟩⟩
        · rw [Array.getElem?_setIfInBounds_ne hin]; exact hnf
        · intro j oj hj hl e he hb
          by_cases hij : i = j
          · subst hij
            rw [ho] at hj; cases hj
            have h8 := hi4 e he hb
            by_cases hie : i = e.on
            · rw [← hie] at h8; rw [hif] at h8; cases h8
            · rw [Array.getElem?_setIfInBounds_ne hie]; exact h8
          · have hl' : listed[j]? = some true := by rw [Array.getElem?_setIfInBounds_ne hij] at hl; exact hl
            have h8 := hcl j oj hj hl' e he hb
            by_cases hie : i = e.on
            · rw [← hie] at h8; rw [hif] at h8; cases h8
            · rw [Array.getElem?_setIfInBounds_ne hie]; exact h8
        · cases ops[i].dst <;> exact h2
        · cases ops[i].dst <;> simp [Act.put, h3]
        · intro t ht
          rw [← h4 t ht]
          have hne0 : ops[i].dst ≠ some t := by
            intro e
            have : isDstL (ops.toList.take n) t = true := by
              refine List.any_eq_true.2 ⟨ops[i], ?_, by rw [e]; simp⟩
              refine List.mem_iff_getElem.2 ⟨i, by simp; omega, by simp⟩
            rw [ht] at this; cases this
          cases hd : ops[i].dst with
          | none => rfl
          | some d =>
            have hne : d ≠ t := fun e => hne0 (by rw [hd, e])
            simp [Act.put, Array.getElem?_setIfInBounds_ne hne]
        · intro j oj hj hl hbr
          by_cases hij : i = j
          · subst hij
            rw [ho] at hj; cases hj
            cases hd : ops[i].dst with
            | none => rw [hd] at hv; exact hv
            | some d =>
              rw [hd] at hv
              have hdl : d < a'.tmps.size := by
                rw [h3]
                have := List.all_eq_true.1 hsize ops[i] (by simp)
                rw [hd] at this; simpa using this
              simpa [slot, Act.put, Array.getElem?_setIfInBounds_self, hdl] using hv
          · have hl' : listed[j]? = some true := by rw [Array.getElem?_setIfInBounds_ne hij] at hl; exact hl
            have hold : Φs.getD j Any (slot a' oj.dst) w'' := by
              by_cases him : i = m
              · have hjb : j ≠ b := by
                  rcases hbr with h | h
                  · exact h
                  · rw [← him, Array.getElem?_setIfInBounds_self, if_pos hlt] at h; cases h
                exact hkeepB j (fun e => hij (him.trans e.symm)) hjb _ _ _ (h6 j oj hj hl' (.inl hjb))
              · refine hkeep j _ _ _ (h6 j oj hj hl' (hbr.imp (fun h => h) fun h => ?_)) (hR1 him)
                rw [Array.getElem?_setIfInBounds_ne him] at h; exact h
            have hsame : slot (a'.put ops[i].dst v) oj.dst = slot a' oj.dst := by
              cases hd : ops[i].dst with
              | none => rfl
              | some d =>
                cases hd2 : oj.dst with
                | none => rfl
                | some d2 =>
                  have hne : d ≠ d2 := by
                    simp only [dstsApart, List.all_eq_true, List.mem_range] at hD
                    have hj1 : j < ops.size := (Array.getElem?_eq_some_iff.1 hj).1
                    have := hD i hi1 j hj1
                    rw [ho, hj] at this
                    simp [hd, hd2, hij] at this
                    exact this
                  simp [slot, Act.put, Array.getElem?_setIfInBounds_ne hne]
            rw [hsame]; exact hold
    · have := hall i hi1
      rw [hif] at this; cases this
  · intro listed a' w' ⟨h1, h⟩ hr
    have hall := ready_nil hE listed h1 hr
    rcases h with ⟨hnf, _⟩ | ⟨_, hQ⟩
    · have := hall n (by omega)
      rw [hnf] at this; cases this
    · exact hQ
  · refine ⟨by simp, .inl ⟨?_, ?_, rfl, rfl, fun _ _ => rfl, ⟨rfl, rfl, rfl, Nat.le_refl _, fun _ _ => rfl⟩, ?_⟩⟩
    · rw [Array.getElem?_replicate, if_pos (by omega)]
    · intro j oj hj hl
      have hj1 : j < ops.size := (Array.getElem?_eq_some_iff.1 hj).1
      rw [Array.getElem?_replicate, if_pos hj1] at hl; cases hl
    · intro j oj hj hl _
      have hj1 : j < ops.size := (Array.getElem?_eq_some_iff.1 hj).1
      rw [Array.getElem?_replicate, if_pos hj1] at hl; cases hl
  · rw [Array.toList_replicate, List.count_replicate_self]; exact Nat.le_refl _
/-- An append within a drawn region: both the call's own, either may be nil. -/
theorem op_append2 {R : World → Prop} {Φ : Value → World → Prop} {i : Nat} {o : Oper} {a' : Act} {w : World} (ho : ops[i]? = some o) (hg : o.guard = none) (s x : Operand) (t : TypeId)
    (hop : o.op = Op.call { callee := Callee.builtin Builtin.append, args := #[s, x], argTypes := #[t, t] })
    (base : Nat) (e : TypeId) (inf : TypeInfo) (z : Value) (bytes : Nat) (h1 : P.underlying t = some (.slice e)) (h2 : P.info? e = some inf) (h3 : inf.zero = some z) (h4 : inf.size = 1) (h5 : inf.bytes = bytes) (h6 : z.cells.size = 1)
    (v : Value) (n : Nat) (xs : List Value) (hs : a'.eval s = v) (hown : w.ownsRow base e 1 v n xs)
    (ad : Addr) (m c : Nat) (news : List Value) (hx : a'.eval x = .slice (some ad) m c) (hn : news.length = m) (hc : ∀ j u, news[j]? = some u → w.cell? (ad.add j) = some u) (h1c : ∀ u ∈ news, u.oneCell' = true)
    (b1 : n + m ≤ maxLen) (b2 : (n + m) * bytes ≤ 140737488355328) (hbase : base ≤ w.heap.size) (hd : o.dst.isSome = true)
    (hK : ∀ v' w', w'.ownsRow base e 1 v' (n + m) (xs ++ news) → w.grownBy w' v.ownBlock → (v'.ownBlock = v.ownBlock ∨ v'.ownBlock = some w.heap.size) → Φ v' w' ∧ R w') :
    wpOp P ops Q i (fun a'' w'' => ∃ v, a'' = a'.put o.dst v ∧ Φ (if o.dst.isSome then v else undef) w'' ∧ R w'') a' w := by
  have hw : Region.wanted o (yielded ops a'.tmps) = true := wanted_none hg
  unfold wpOp
  simp only [ho, hw, if_true]
  refine .inl ?_
  obtain ⟨v', w', hr, hA, hB, _, hD⟩ := run_append_own_at (P := P) w base t o.type e inf z 1 bytes h1 h2 h3 h4 h5 h6 (by decide) v n xs hown ad m c news (by omega) hc h1c b1 b2 hbase
  unfold Oper.wp execOp
  simp only [hop, resolve, invoke, builtin, Sem.run_bind, Sem.run_pure, Result.andThen_ok, List.map_toArray, List.map_cons, List.map_nil, hs, hx, hr]
  obtain ⟨q1, q2⟩ := hK v' w' hA hB hD
  exact ⟨v', rfl, by rw [if_pos hd]; exact q1, q2⟩
end
/-- A list that is new. -/
def IsRowO (B : Nat) (e : TypeId) (n : Nat) (xs : List Value) : Value → World → Prop := fun v w => ∃ a cap, v = .slice a n cap ∧ w.ownsRow B e 1 (.slice a n cap) n xs
theorem IsRowO.of {B e n : Nat} {xs : List Value} {v : Value} {w : World} (h : w.ownsRow B e 1 v n xs) : IsRowO B e n xs v w := by
  rcases h.2 with ⟨rfl, rfl⟩ | ⟨g, cap, cur, rfl, _⟩
  · exact ⟨none, 0, rfl, h⟩
  · exact ⟨_, _, rfl, h⟩
instance (B : Nat) (e : TypeId) (n : Nat) (xs : List Value) : Stable (IsRowO B e n xs) := ⟨fun v w w' h hp => by
  obtain ⟨a, cap0, hv, h⟩ := h
  refine ⟨a, cap0, hv, h.1, ?_⟩
  rcases h.2 with h0 | ⟨g, cap, cur, hv, hg, hc, rest⟩
  · exact .inl h0
  · refine .inr ⟨g, cap, cur, hv, hg, ?_, rest⟩
    rw [hp.block g (Array.getElem?_eq_some_iff.1 hc).1]
    exact hc⟩
end Go.Esc
