/- A law for regions that draw their order, of whose operations two append to one list, that is new, and the last comes behind all others. Records in whatever order, in plain Lean. Chapter 13: three lists of texts beside an Out and an In. The document's In: a record that is opened. -/
import Derived.Test.YtoakccknimoogaaGreatU10
import Derived.Maps.AppendAt
import Derived.Laws.AppendOwnNone
set_option linter.unusedSimpArgs false
set_option linter.unusedVariables false
namespace Go.Esc
open Go Go.RowKit
/-- Only operation m awaits operation b (of those but the last). -/
def onlyM (ops : Array Oper) (b m : Nat) : Bool := (List.range ops.size).all fun i => Nat.ble m i || ((ops[i]?).map fun o => o.after.toList.all fun e => !(Region.binds .any e) || !(e.on == b)).getD true
theorem onlyM_at {ops : Array Oper} {b m i : Nat} (h : onlyM ops b m = true) (hi : i < ops.size) {o : Oper} (ho : ops[i]? = some o) {e : _} (he : e ∈ o.after.toList) (hb : Region.binds .any e = true) (heb : e.on = b) : m ≤ i := by
  simp only [onlyM, List.all_eq_true, List.mem_range, Bool.or_eq_true] at h
  rcases h i hi with h1 | h1
  · exact Nat.le_of_ble_eq_true h1
  · rw [ho] at h1
    simp only [Option.map_some, Option.getD_some, List.all_eq_true, Bool.or_eq_true] at h1
    rcases h1 e he with h2 | h2
    · rw [hb] at h2; cases h2
    · simp [heb] at h2
/-- What does not speak of the memory. -/
def FreeΦ (Φ : Value → World → Prop) : Prop := ∀ v w w', Φ v w → Φ v w'
def AllFree (b m : Nat) : Nat → List (Value → World → Prop) → Prop
  | _, [] => True
  | k, Φ :: l => ((k != b && k != m) = true → FreeΦ Φ) ∧ AllFree b m (k+1) l
theorem AllFree.get {b m : Nat} : ∀ {l : List (Value → World → Prop)} {k : Nat}, AllFree b m k l → ∀ i Φ, l[i]? = some Φ → (k + i != b && k + i != m) = true → FreeΦ Φ
  | [], _, _, i, Φ, h, _ => by simp at h
  | Ψ :: l, k, hf, 0, Φ, h, hc => by
    simp at h
    subst h
    exact hf.1 (by simpa using hc)
  | Ψ :: l, k, hf, i+1, Φ, h, hc => AllFree.get hf.2 i Φ (by simpa using h) (by rw [show k + 1 + i = k + (i + 1) by omega]; exact hc)
theorem free_is (v : Value) : FreeΦ (Is v) := fun _ _ _ h => h
theorem gone (Φs : List (Value → World → Prop)) {k b : Nat} (h : k = b) (v : Value) (w : World) : (Φs.set b Any).getD k Any v w := by
  subst h
  by_cases hl9 : k < Φs.length
  · rw [List.getD, List.getElem?_set_self hl9]; trivial
  · rw [List.getD, List.getElem?_eq_none (by simp; omega)]; trivial
section
variable {P : Program} {ops : Array Oper} {Q : Exit → Act → World → Prop}
/-- What is asked of an operation; that of number m may change what is new. -/
def OpOkD (P : Program) (ops : Array Oper) (Q : Exit → Act → World → Prop) (b m n : Nat) (Φs : List (Value → World → Prop)) (a : Act) (w : World) (i : Nat) (o : Oper) : Prop :=
  ∀ (a' : Act) (w' : World), (∀ t : Nat, isDstL (ops.toList.take n) t = false → a'.tmps[t]?.getD undef = a.tmps[t]?.getD undef) → Pu w w' →
    (∀ e ∈ o.after.toList, Region.binds .any e = true → (bif decide (i ≤ m) then Φs else Φs.set b Any).getD e.on Any (match (ops[e.on]?).bind (·.dst) with | some d => a'.tmps[d]?.getD undef | none => undef) w') →
    wpOp P ops Q i (fun a'' w'' => ∃ v, a'' = a'.put o.dst v ∧ Φs.getD i Any (if o.dst.isSome then v else undef) w'' ∧ (bif Nat.beq i m then Below w.heap.size w' w'' else Pu w' w'')) a' w'
theorem region_two (id : Nat) (b m : Nat) (Φs : List (Value → World → Prop)) {a : Act} {w : World} (n : Nat) (ol : Oper) (hn : ops.size = n + 1) (hlast : ops[n]? = some ol)
    (hm : P.follows .mixedOrders = true) (hE : edgesBack ops = true) (hD : dstsApart ops = true) (hU : usedAll ops = true)
    (hbm : b < m) (hBr : onlyM ops b m = true) [hΦ : AllStable Φs] (hfree : AllFree b m 0 Φs)
    (hsize : (ops.toList.all fun o => match o.dst with | some d => decide (d < a.tmps.size) | none => true) = true)
    (hop : AllOps (OpOkD P ops Q b m n Φs a w) 0 (ops.toList.take n))
    (hend : ∀ (a' : Act) (w' : World), a'.defers = a.defers → a'.tmps.size = a.tmps.size → (∀ t : Nat, isDstL (ops.toList.take n) t = false → a'.tmps[t]?.getD undef = a.tmps[t]?.getD undef) → Pu w w' →
      AllOps (fun j oj => (Φs.set b Any).getD j Any (match oj.dst with | some d => a'.tmps[d]?.getD undef | none => undef) w') 0 (ops.toList.take n) → wpOp P ops Q n (fun a'' w'' => Q .normal a'' w'') a' w') :
    (Code.region id ops true).wp P Q a w := by
  refine wp_region_any hm ?_
  have hkeep : ∀ (i : Nat) (v : Value) (w w' : World), Φs.getD i Any v w → Pu w w' → Φs.getD i Any v w' := by
    intro i v w w' h hp
    by_cases hi : i < Φs.length
    · have e : Φs.getD i Any = Φs[i] := by simp [List.getD, List.getElem?_eq_getElem hi]
      rw [e] at h ⊢
      exact hΦ.keep _ (List.getElem_mem hi) _ _ _ h hp
    · have e : Φs.getD i Any = Any := by simp [List.getD, List.getElem?_eq_none (by omega : Φs.length ≤ i)]
      rw [e]; trivial
  have hkeepB : ∀ (i : Nat), i ≠ m → i ≠ b → ∀ (v : Value) (w w' : World), Φs.getD i Any v w → Φs.getD i Any v w' := by
    intro i him hib v w w' h
    by_cases hi : i < Φs.length
    · have e : Φs.getD i Any = Φs[i] := by simp [List.getD, List.getElem?_eq_getElem hi]
      rw [e] at h ⊢
      have := hfree.get i Φs[i] (List.getElem?_eq_getElem hi)
      rw [Nat.zero_add] at this
      exact this (by simp [him, hib]) _ _ _ h
    · have e : Φs.getD i Any = Any := by simp [List.getD, List.getElem?_eq_none (by omega : Φs.length ≤ i)]
      rw [e]; trivial
  let slot : Act → Option Tmp → Value := fun a' d => match d with | some d => a'.tmps[d]?.getD undef | none => undef
  let Inv : Array Bool → Act → World → Prop := fun listed a' w' => listed.size = ops.size ∧
    ((listed[n]? = some false ∧ Closed ops listed ∧ a'.defers = a.defers ∧ a'.tmps.size = a.tmps.size ∧
      (∀ t : Nat, isDstL (ops.toList.take n) t = false → a'.tmps[t]?.getD undef = a.tmps[t]?.getD undef) ∧ Pu w w' ∧
      ∀ (j : Nat) (oj : Oper), ops[j]? = some oj → listed[j]? = some true → (j ≠ b ∨ listed[m]? = some false) → Φs.getD j Any (slot a' oj.dst) w') ∨
     ((∀ i, i < ops.size → listed[i]? = some true) ∧ Q .normal a' w'))
  refine wpAny_inv .any Inv ?_ ?_ (fun _ _ _ h => h.1) ops.size _ a _ ?_ ?_
  · intro listed a' w' ⟨h1, h⟩ i hi
    simp only [Region.ready, List.mem_filter, List.mem_range, Bool.and_eq_true, Bool.not_eq_true'] at hi
    obtain ⟨hi1, hi2, hi3⟩ := hi
    have ho : ops[i]? = some ops[i] := Array.getElem?_eq_getElem hi1
    have hlt : i < listed.size := by omega
    have hif : listed[i]? = some false := by
      simp [Array.getD_eq_getD_getElem?, Array.getElem?_eq_getElem hlt] at hi2
      rw [Array.getElem?_eq_getElem hlt, hi2]
    have hi4 : ∀ e ∈ ops[i].after.toList, Region.binds .any e = true → listed[e.on]? = some true := by
      intro e he hb
      rw [ho] at hi3
      simp only [Option.map_some, Option.getD_some, Array.all_eq_true_iff_forall_mem] at hi3
      have h7 := hi3 e (by simpa using he)
      simp only [hb, Bool.not_true, Bool.false_or] at h7
      cases hq : listed[e.on]? with
      | none => simp [Array.getD_eq_getD_getElem?, hq] at h7
      | some x => simp [Array.getD_eq_getD_getElem?, hq] at h7; rw [h7]
    rcases h with ⟨hnf, hcl, h2, h3, h4, h5, h6⟩ | ⟨hall, hQ⟩
    · by_cases hin : i = n
      · subst hin
        have hall := all_listed hU listed i hn hcl ops[i] ho hi4
        refine wpOp_mono ?_ (hend a' w' h2 h3 h4 h5 (AllOps.mk' _ _ fun j o hj => ?_))
        · intro a'' w'' hQ
          refine ⟨by simp [h1], .inr ⟨fun j hj => ?_, hQ⟩⟩
          by_cases hji : i = j
          · subst hji; rw [Array.getElem?_setIfInBounds_self, if_pos hlt]
          · rw [Array.getElem?_setIfInBounds_ne hji]; exact hall _ j (by omega) rfl
        · rw [Nat.zero_add]
          rw [List.getElem?_take] at hj
          split at hj
          · next hji =>
            by_cases hjb : j = b
            · subst hjb
              by_cases hl9 : j < Φs.length
              · rw [List.getD, List.getElem?_set_self hl9]; trivial
              · rw [List.getD, List.getElem?_eq_none (by simp; omega)]; trivial
            · have := h6 j o (by simpa using hj) (hall _ j hji rfl) (.inl hjb)
              rw [List.getD, List.getElem?_set_ne (fun e => hjb e.symm)]
              exact this
          · cases hj
      · have hk := hop.get i ops[i] (by rw [List.getElem?_take, if_pos (by omega)]; simp)
        rw [Nat.zero_add] at hk
        have hk2 := hk a' w' h4 h5 (fun e hm hb => by
          have h8 := hi4 e hm hb
          have hlt2 : e.on < ops.size := by
            have := (Array.getElem?_eq_some_iff.1 h8).1; omega
          rw [Array.getElem?_eq_getElem hlt2]
          by_cases heb : e.on = b
          · have hmi : m ≤ i := onlyM_at hBr (by omega) ho hm hb heb
            by_cases him : i = m
            · have h9 := h6 e.on ops[e.on] (Array.getElem?_eq_getElem hlt2) h8 (.inr (by rw [← him]; exact hif))
              rw [show decide (i ≤ m) = true from decide_eq_true (by omega)]
              exact h9
            · rw [show decide (i ≤ m) = false from decide_eq_false (by omega)]
              exact gone Φs heb _ _
          · have h9 := h6 e.on ops[e.on] (Array.getElem?_eq_getElem hlt2) h8 (.inl heb)
            cases decide (i ≤ m) with
            | true => exact h9
            | false =>
              simp only [cond_false]
              rw [List.getD, List.getElem?_set_ne (fun e => heb e.symm)]
              exact h9)
        refine wpOp_mono ?_ hk2
        rintro a'' w'' ⟨v, rfl, hv, hR0⟩
        have hR : Pu w w'' := by
          cases h : Nat.beq i m with
          | true => rw [h] at hR0; exact Below.trans h5 hR0
          | false => rw [h] at hR0; exact h5.trans hR0
        have hR1 : i ≠ m → Pu w' w'' := by
          intro him
          have : Nat.beq i m = false := by cases h : Nat.beq i m with | false => rfl | true => exact absurd (Nat.eq_of_beq_eq_true h) him
          rw [this] at hR0; exact hR0
        refine ⟨by simp [h1], .inl ⟨?_, ?_, ?_, ?_, ?_, hR, ?_⟩⟩
        · rw [Array.getElem?_setIfInBounds_ne hin]; exact hnf
        · intro j oj hj hl e he hb
          by_cases hij : i = j
          · subst hij
            rw [ho] at hj; cases hj
            have h8 := hi4 e he hb
            by_cases hie : i = e.on
            · rw [← hie] at h8; rw [hif] at h8; cases h8
            · rw [Array.getElem?_setIfInBounds_ne hie]; exact h8
          · have hl' : listed[j]? = some true := by rw [Array.getElem?_setIfInBounds_ne hij] at hl; exact hl
            have h8 := hcl j oj hj hl' e he hb
            by_cases hie : i = e.on
            · rw [← hie] at h8; rw [hif] at h8; cases h8
            · rw [Array.getElem?_setIfInBounds_ne hie]; exact h8
        · cases ops[i].dst <;> exact h2
        · cases ops[i].dst <;> simp [Act.put, h3]
        · intro t ht
          rw [← h4 t ht]
          have hne0 : ops[i].dst ≠ some t := by
            intro e
            have : isDstL (ops.toList.take n) t = true := by
              refine List.any_eq_true.2 ⟨ops[i], ?_, by rw [e]; simp⟩
              refine List.mem_iff_getElem.2 ⟨i, by simp; omega, by simp⟩
            rw [ht] at this; cases this
          cases hd : ops[i].dst with
          | none => rfl
          | some d =>
            have hne : d ≠ t := fun e => hne0 (by rw [hd, e])
            simp [Act.put, Array.getElem?_setIfInBounds_ne hne]
        · intro j oj hj hl hbr
          by_cases hij : i = j
          · subst hij
            rw [ho] at hj; cases hj
            cases hd : ops[i].dst with
            | none => rw [hd] at hv; exact hv
            | some d =>
              rw [hd] at hv
              have hdl : d < a'.tmps.size := by
                rw [h3]
                have := List.all_eq_true.1 hsize ops[i] (by simp)
                rw [hd] at this; simpa using this
              simpa [slot, Act.put, Array.getElem?_setIfInBounds_self, hdl] using hv
          · have hl' : listed[j]? = some true := by rw [Array.getElem?_setIfInBounds_ne hij] at hl; exact hl
            have hold : Φs.getD j Any (slot a' oj.dst) w'' := by
              by_cases him : i = m
              · have hjb : j ≠ b := by
                  rcases hbr with h | h
                  · exact h
                  · rw [← him, Array.getElem?_setIfInBounds_self, if_pos hlt] at h; cases h
                exact hkeepB j (fun e => hij (him.trans e.symm)) hjb _ _ _ (h6 j oj hj hl' (.inl hjb))
              · refine hkeep j _ _ _ (h6 j oj hj hl' (hbr.imp (fun h => h) fun h => ?_)) (hR1 him)
                rw [Array.getElem?_setIfInBounds_ne him] at h; exact h
            have hsame : slot (a'.put ops[i].dst v) oj.dst = slot a' oj.dst := by
              cases hd : ops[i].dst with
              | none => rfl
              | some d =>
                cases hd2 : oj.dst with
                | none => rfl
                | some d2 =>
                  have hne : d ≠ d2 := by
                    simp only [dstsApart, List.all_eq_true, List.mem_range] at hD
                    have hj1 : j < ops.size := (Array.getElem?_eq_some_iff.1 hj).1
                    have := hD i hi1 j hj1
                    rw [ho, hj] at this
                    simp [hd, hd2, hij] at this
                    exact this
                  simp [slot, Act.put, Array.getElem?_setIfInBounds_ne hne]
            rw [hsame]; exact hold
    · have := hall i hi1
      rw [hif] at this; cases this
  · intro listed a' w' ⟨h1, h⟩ hr
    have hall := ready_nil hE listed h1 hr
    rcases h with ⟨hnf, _⟩ | ⟨_, hQ⟩
    · have := hall n (by omega)
      rw [hnf] at this; cases this
    · exact hQ
  · refine ⟨by simp, .inl ⟨?_, ?_, rfl, rfl, fun _ _ => rfl, ⟨rfl, rfl, rfl, Nat.le_refl _, fun _ _ => rfl⟩, ?_⟩⟩
    · rw [Array.getElem?_replicate, if_pos (by omega)]
    · intro j oj hj hl
      have hj1 : j < ops.size := (Array.getElem?_eq_some_iff.1 hj).1
      rw [Array.getElem?_replicate, if_pos hj1] at hl; cases hl
    · intro j oj hj hl _
      have hj1 : j < ops.size := (Array.getElem?_eq_some_iff.1 hj).1
      rw [Array.getElem?_replicate, if_pos hj1] at hl; cases hl
  · rw [Array.toList_replicate, List.count_replicate_self]; exact Nat.le_refl _
/-- An append within a drawn region: both the call's own, either may be nil. -/
theorem op_append2 {R : World → Prop} {Φ : Value → World → Prop} {i : Nat} {o : Oper} {a' : Act} {w : World} (ho : ops[i]? = some o) (hg : o.guard = none) (s x : Operand) (t : TypeId)
    (hop : o.op = Op.call { callee := Callee.builtin Builtin.append, args := #[s, x], argTypes := #[t, t] })
    (base : Nat) (e : TypeId) (inf : TypeInfo) (z : Value) (bytes : Nat) (h1 : P.underlying t = some (.slice e)) (h2 : P.info? e = some inf) (h3 : inf.zero = some z) (h4 : inf.size = 1) (h5 : inf.bytes = bytes) (h6 : z.cells.size = 1)
    (v : Value) (n : Nat) (xs : List Value) (hs : a'.eval s = v) (hown : w.ownsRow base e 1 v n xs)
    (ad : Addr) (m c : Nat) (news : List Value) (hx : a'.eval x = .slice (some ad) m c) (hn : news.length = m) (hc : ∀ j u, news[j]? = some u → w.cell? (ad.add j) = some u) (h1c : ∀ u ∈ news, u.oneCell' = true)
    (b1 : n + m ≤ maxLen) (b2 : (n + m) * bytes ≤ 140737488355328) (hbase : base ≤ w.heap.size) (hd : o.dst.isSome = true)
    (hK : ∀ v' w', w'.ownsRow base e 1 v' (n + m) (xs ++ news) → w.grownBy w' v.ownBlock → (v'.ownBlock = v.ownBlock ∨ v'.ownBlock = some w.heap.size) → Φ v' w' ∧ R w') :
    wpOp P ops Q i (fun a'' w'' => ∃ v, a'' = a'.put o.dst v ∧ Φ (if o.dst.isSome then v else undef) w'' ∧ R w'') a' w := by
  have hw : Region.wanted o (yielded ops a'.tmps) = true := wanted_none hg
  unfold wpOp
  simp only [ho, hw, if_true]
  refine .inl ?_
  obtain ⟨v', w', hr, hA, hB, _, hD⟩ := run_append_own_at (P := P) w base t o.type e inf z 1 bytes h1 h2 h3 h4 h5 h6 (by decide) v n xs hown ad m c news (by omega) hc h1c b1 b2 hbase
  unfold Oper.wp execOp
  simp only [hop, resolve, invoke, builtin, Sem.run_bind, Sem.run_pure, Result.andThen_ok, List.map_toArray, List.map_cons, List.map_nil, hs, hx, hr]
  obtain ⟨q1, q2⟩ := hK v' w' hA hB hD
  exact ⟨v', rfl, by rw [if_pos hd]; exact q1, q2⟩
end
/-- A list that is new. -/
def IsRowO (B : Nat) (e : TypeId) (n : Nat) (xs : List Value) : Value → World → Prop := fun v w => ∃ a cap, v = .slice a n cap ∧ w.ownsRow B e 1 (.slice a n cap) n xs
theorem IsRowO.of {B e n : Nat} {xs : List Value} {v : Value} {w : World} (h : w.ownsRow B e 1 v n xs) : IsRowO B e n xs v w := by
  rcases h.2 with ⟨rfl, rfl⟩ | ⟨g, cap, cur, rfl, _⟩
  · exact ⟨none, 0, rfl, h⟩
  · exact ⟨_, _, rfl, h⟩
instance (B : Nat) (e : TypeId) (n : Nat) (xs : List Value) : Stable (IsRowO B e n xs) := ⟨fun v w w' h hp => by
  obtain ⟨a, cap0, hv, h⟩ := h
  refine ⟨a, cap0, hv, h.1, ?_⟩
  rcases h.2 with h0 | ⟨g, cap, cur, hv, hg, hc, rest⟩
  · exact .inl h0
  · refine .inr ⟨g, cap, cur, hv, hg, ?_, rest⟩
    rw [hp.block g (Array.getElem?_eq_some_iff.1 hc).1]
    exact hc⟩
end Go.Esc
namespace Go.Esc
open Go Go.RowKit Go.Proofs.YtoakccknimoogaaGreat
theorem pig : ∀ (k m : Nat) (t : Nat → Nat), (∀ i j, i < m → j < m → t i = t j → i = j) → (∀ i, i < m → t i < k) → m ≤ k
  | 0, m, t, _, h => by
    rcases Nat.eq_zero_or_pos m with h0 | h0
    · omega
    · have := h 0 h0; omega
  | k+1, m, t, hi, h => by
    by_cases he : ∃ i, i < m ∧ t i = k
    · obtain ⟨i0, h0, e0⟩ := he
      have := pig k (m-1) (fun i => t (if i < i0 then i else i+1)) (fun i j hi' hj' e => by
        have := hi (if i < i0 then i else i+1) (if j < i0 then j else j+1) (by split <;> omega) (by split <;> omega) e
        split at this <;> split at this <;> omega) (fun i hi' => by
        have h1 := h (if i < i0 then i else i+1) (by split <;> omega)
        have h2 : t (if i < i0 then i else i+1) ≠ k := fun e => by
          have := hi (if i < i0 then i else i+1) i0 (by split <;> omega) h0 (by rw [e, e0])
          split at this <;> omega
        show t (if i < i0 then i else i+1) < k
        omega)
      omega
    · have := pig k m t hi (fun i hi' => by
        have h1 := h i hi'
        have h2 : t i ≠ k := fun e => he ⟨i, hi', e⟩
        omega)
      omega
/-- Which record lies where, and where which one lies. -/
structure Per (n : Nat) (s t : Nat → Nat) : Prop where
  sl : ∀ i, i < n → s i < n
  tl : ∀ i, i < n → t i < n
  st : ∀ i, i < n → s (t i) = i
  ts : ∀ i, i < n → t (s i) = i
theorem Per.id (n : Nat) : Per n (fun i => i) (fun i => i) := ⟨fun _ h => h, fun _ h => h, fun _ _ => rfl, fun _ _ => rfl⟩
def swp (a b i : Nat) : Nat := if i = a then b else if i = b then a else i
theorem swp_swp (a b i : Nat) : swp a b (swp a b i) = i := by
  unfold swp
  repeat' split
  all_goals simp_all
theorem swp_lt {a b i n : Nat} (ha : a < n) (hb : b < n) (h : i < n) : swp a b i < n := by
  unfold swp
  split
  · exact hb
  · split
    · exact ha
    · exact h
theorem Per.swap {n : Nat} {s t : Nat → Nat} (h : Per n s t) {a b : Nat} (ha : a < n) (hb : b < n) : Per n (fun i => s (swp a b i)) (fun i => swp a b (t i)) :=
  ⟨fun i hi => h.sl _ (swp_lt ha hb hi), fun i hi => swp_lt ha hb (h.tl i hi), fun i hi => by simp only [swp_swp]; exact h.st i hi, fun i hi => by simp only [h.ts _ (swp_lt ha hb hi), swp_swp]⟩
theorem set_swap {α : Type} (n : Nat) (f : Nat → α) {a b : Nat} (ha : a < n) (hb : b < n) : (((List.range n).map f).set a (f b)).set b (f a) = (List.range n).map (fun i => f (swp a b i)) := by
  apply List.ext_getElem?
  intro i
  by_cases hi : i < n
  · rw [List.getElem?_map, List.getElem?_range hi]
    by_cases hib : i = b
    · subst hib
      rw [List.getElem?_set_self (by simp; exact hi)]
      unfold swp
      by_cases hia : i = a
      · subst hia; simp
      · simp [hia]
    · rw [List.getElem?_set_ne (by omega)]
      by_cases hia : i = a
      · subst hia
        rw [List.getElem?_set_self (by simp; exact hi)]
        simp [swp]
      · rw [List.getElem?_set_ne (by omega), List.getElem?_map, List.getElem?_range hi]
        simp [swp, hia, hib]
  · rw [List.getElem?_eq_none (by simp; omega), List.getElem?_eq_none (by simp; omega)]
def txO (k : Nat) : Bs := [116, UInt8.ofNat k]
/-- What waits when k of n were opened and those before N are told. -/
def waitF (n k N : Nat) (t : Nat → Nat) : Nat → Option Bs := fun j => if N ≤ j ∧ j < n ∧ t j < k then some (txO j) else none
/-- N is the first that was not opened, of the first k. -/
structure First (n k N : Nat) (t : Nat → Nat) : Prop where
  le : N ≤ n
  all : ∀ j, j < N → t j < k
  next : N < n → k ≤ t N
def ordS (n k N : Nat) (t : Nat → Nat) : InS := ⟨N, waitF n k N t, k - N⟩
theorem First.le_k {n k N : Nat} {s t : Nat → Nat} (hp : Per n s t) (h : First n k N t) : N ≤ k :=
  pig k N t (fun i j hi hj e => by
    have := h.le
    have h1 := hp.st i (by omega)
    have h2 := hp.st j (by omega)
    rw [e] at h1; omega) h.all
theorem ordS_ok {n k N : Nat} {s t : Nat → Nat} (_ : Per n s t) (h : First n k N t) (hn : n ≤ 60) : (ordS n k N t).Ok := by
  refine ⟨fun j hj => ?_, by have := h.le; simp only [ordS]; omega⟩
  simp only [ordS, waitF] at hj ⊢
  split at hj
  · next hc =>
    have : N ≠ j := fun e => by
      have := h.next (by omega)
      rw [e] at this; omega
    omega
  · cases hj
theorem ord_step (key : Bs) (hk : key.length = 32) {n k N : Nat} {s t : Nat → Nat} (hp : Per n s t) (h : First n k N t) (hn : n ≤ 60) (hkn : k < n) :
    ∃ N', N ≤ N' ∧ First n (k+1) N' t ∧ openS key (ordS n k N t) (recL key (s k) (txO (s k))) = (0, (List.range (N' - N)).map (fun j => txO (N + j)), ordS n (k+1) N' t) ∧
      openS key (ordS n (k+1) N' t) (recL key (s k) (txO (s k))) = (4, [], ordS n (k+1) N' t) := by
  obtain ⟨q, hq⟩ : ∃ q, q = s k := ⟨_, rfl⟩
  have hqn : q < n := by rw [hq]; exact hp.sl k hkn
  have htq : t q = k := by rw [hq]; exact hp.ts k hkn
  have hNq : N ≤ q := by
    rcases Nat.lt_or_ge q N with h1 | h1
    · have := h.all q h1; omega
    · exact h1
  rw [← hq]
  obtain ⟨pp, hpp⟩ : ∃ pp, padL (txO q) = some pp := by
    unfold padL txO
    rw [padSize_32 (by simp) (by simp)]; exact ⟨_, rfl⟩
  have hup : updF (waitF n k N t) q (some (txO q)) = waitF n (k+1) N t := by
    funext j
    unfold updF waitF
    by_cases hj : j = q
    · subst hj
      rw [if_pos rfl, if_pos (by omega)]
    · rw [if_neg hj]
      by_cases hc : N ≤ j ∧ j < n ∧ t j < k
      · rw [if_pos hc, if_pos (by omega)]
      · rw [if_neg hc, if_neg]
        rintro ⟨h1, h2, h3⟩
        have : t j ≠ k := fun e => hj (by rw [← hp.st j h2, e, hq])
        omega
  have hend : waitF n (k+1) N t (N + 1000) = none := by unfold waitF; rw [if_neg (by omega)]
  have hrun := runF_is (waitF n (k+1) N t) 1000 N hend
  obtain ⟨out, hout⟩ : ∃ out, out = runF (waitF n (k+1) N t) N 1000 := ⟨_, rfl⟩
  rw [← hout] at hrun
  have hat : ∀ j, j < out.length → N + j < n ∧ t (N + j) < k + 1 ∧ out[j]? = some (txO (N + j)) := fun j hj => by
    have h1 := hrun.1 j hj
    rw [List.getElem?_eq_getElem hj] at h1 ⊢
    unfold waitF at h1
    split at h1
    · next hc => exact ⟨hc.2.1, hc.2.2, h1.symm⟩
    · cases h1
  have hF : First n (k+1) (N + out.length) t := by
    refine ⟨?_, fun j hj => ?_, fun hlt => ?_⟩
    · rcases Nat.eq_zero_or_pos out.length with h0 | h0
      · have := h.le; omega
      · have := (hat (out.length - 1) (by omega)).1; omega
    · rcases Nat.lt_or_ge j N with h1 | h1
      · have := h.all j h1; omega
      · have := (hat (j - N) (by omega)).2.1
        rw [show N + (j - N) = j by omega] at this
        exact this
    · have h1 := hrun.2
      unfold waitF at h1
      split at h1
      · cases h1
      · next hc =>
        have : ¬ (t (N + out.length) < k + 1) := fun h9 => hc ⟨by omega, hlt, h9⟩
        omega
  have hoe : out = (List.range (N + out.length - N)).map (fun j => txO (N + j)) := by
    apply List.ext_getElem?
    intro j
    by_cases hj : j < out.length
    · rw [(hat j hj).2.2, List.getElem?_map, List.getElem?_range (by omega)]; rfl
    · rw [List.getElem?_eq_none (by omega), List.getElem?_eq_none (by simp; omega)]
  have hcut : cutF (waitF n (k+1) N t) (N + out.length) = waitF n (k+1) (N + out.length) t := by
    funext j
    unfold cutF waitF
    by_cases hj : j < N + out.length
    · rw [if_pos hj, if_neg (by omega)]
    · rw [if_neg hj]
      by_cases hc : j < n ∧ t j < k + 1
      · rw [if_pos ⟨by omega, hc⟩, if_pos ⟨by omega, hc⟩]
      · rw [if_neg (fun h9 => hc h9.2), if_neg (fun h9 => hc h9.2)]
  have hle := h.le_k hp
  have hw : waitF n k N t q = none := by unfold waitF; rw [if_neg (by omega)]
  refine ⟨N + out.length, by omega, hF, ?_, ?_⟩
  · have := openS_run key (ordS n k N t) q (txO q) pp hk hpp (by omega) hNq (by simp only [ordS]; omega) hw out (by rw [show (ordS n k N t).f = waitF n k N t from rfl, hup]; exact hrun) (ordS_ok hp h hn)
    rw [this]
    simp only [ordS]
    rw [hup, hcut, ← hoe]
    have : k - N + 1 - out.length = k + 1 - (N + out.length) := by omega
    rw [this]
  · rw [openS_recL key _ q (txO q) pp hk hpp (by omega), if_pos]
    simp only [ordS]
    by_cases h1 : q < N + out.length
    · exact .inl h1
    · refine .inr (.inr ?_)
      unfold waitF
      rw [if_pos (by omega)]; rfl
theorem ord_start (n : Nat) (t : Nat → Nat) : First n 0 0 t ∧ ordS n 0 0 t = inOrd 0 := by
  refine ⟨⟨by omega, fun j hj => by omega, fun _ => by omega⟩, ?_⟩
  unfold ordS inOrd
  congr 1
  funext j
  unfold waitF
  rw [if_neg (by omega)]
theorem ord_end {n N : Nat} {s t : Nat → Nat} (hp : Per n s t) (h : First n n N t) : N = n := by
  rcases Nat.lt_or_ge N n with h1 | h1
  · have := h.next h1
    have := hp.tl N h1
    omega
  · have := h.le; omega
end Go.Esc
namespace Go.Esc
open Go Go.RowKit
/-- 'append(s, x...)', both the call's own, either may be nil. -/
theorem wpList_append_two {P : Program} {w : World} {ops : Array Oper} {rest : List Oper} {o : Oper} {a : Act} {Q : Exit → Act → World → Prop} (hgd : o.guard = none) (s x : Operand) (t : TypeId)
    (ho : o.op = .call { callee := .builtin .append, args := #[s, x], argTypes := #[t, t] })
    (base : Nat) (e : TypeId) (i : TypeInfo) (z : Value) (bytes : Nat) (ht : P.underlying t = some (.slice e)) (hi : P.info? e = some i) (hz : i.zero = some z)
    (hsize : i.size = 1) (hby : i.bytes = bytes) (hzs : z.cells.size = 1)
    (v : Value) (n : Nat) (xs : List Value) (hs : a.eval s = v) (hown : w.ownsRow base e 1 v n xs)
    (base2 : Nat) (u : Value) (m : Nat) (news : List Value) (hx : a.eval x = u) (hownu : w.ownsRow base2 e 1 u m news) (h1 : ∀ u ∈ news, u.oneCell' = true)
    (h63 : n + m ≤ maxLen) (hbytes : (n + m) * bytes ≤ 140737488355328) (hbase : base ≤ w.heap.size)
    (h : ∀ v' w', w'.ownsRow base e 1 v' (n + m) (xs ++ news) → w.grownBy w' v.ownBlock → (v'.ownBlock = v.ownBlock ∨ v'.ownBlock = some w.heap.size) → wpList P ops Q rest (a.put o.dst v') w') :
    wpList P ops Q (o :: rest) a w := by
  rcases hownu.2 with ⟨hu, hm⟩ | ⟨g, cap, cur, hu, -, -, -, -, -, -⟩
  · subst hu; subst hm
    have hnw : news = [] := List.eq_nil_of_length_eq_zero (by have := hownu.1; simpa using this)
    subst hnw
    refine wpList_append_own_none hgd s x t ho base e i 1 ht hi v n xs hs hown hx ?_
    exact h v w (by simpa using hown) ⟨rfl, rfl, rfl, Nat.le_refl _, fun _ _ _ => rfl⟩ (.inl rfl)
  · subst hu
    have hc := hownu.cells (g := g) rfl
    exact wpList_append_own_at _ hgd s x t ho base e i z 1 bytes ht hi hz hsize hby hzs (by decide) v n xs hs hown ⟨g, 0, none⟩ m cap news hx hownu.1 hc h1 h63 hbytes hbase (fun v' w' h2 h3 _ h5 => h v' w' h2 h3 h5)
end Go.Esc
namespace Go.Proofs.YtoakccknimoogaaGreat
open Go.RowKit Go.Esc
structure OI3 (Go Gi : Nat → Prop) (w0 w : World) (ob ib : Nat) (k1 k2 : Bs) (m1 n m2 : Nat) (s : InS) (v1 : Value) (L1 : List Bs) (v2 : Value) (L2 : List Bs) (v3 : Value) (L3 : List Bs) : Prop where
  oi : OI Go Gi w0 w ob ib k1 k2 m1 n m2 s
  own1 : w.ownsRow w0.heap.size 9 1 v1 L1.length (L1.map S)
  own2 : w.ownsRow w0.heap.size 9 1 v2 L2.length (L2.map S)
  own3 : w.ownsRow w0.heap.size 9 1 v3 L3.length (L3.map S)
  ap1 : ∀ g, v1.ownBlock = some g → ¬ Go g ∧ ¬ Gi g
  ap2 : ∀ g, v2.ownBlock = some g → ¬ Go g ∧ ¬ Gi g
  ap3 : ∀ g, v3.ownBlock = some g → ¬ Go g ∧ ¬ Gi g
  d12 : ∀ g, v1.ownBlock = some g → v2.ownBlock ≠ some g
  d13 : ∀ g, v1.ownBlock = some g → v3.ownBlock ≠ some g
  d23 : ∀ g, v2.ownBlock = some g → v3.ownBlock ≠ some g
section
variable {Go Gi : Nat → Prop} {w0 w : World} {ob ib : Nat} {k1 k2 : Bs} {m1 n m2 : Nat} {s : InS} {v1 v2 v3 : Value} {L1 L2 L3 : List Bs}
theorem OI3.rot (h : OI3 Go Gi w0 w ob ib k1 k2 m1 n m2 s v1 L1 v2 L2 v3 L3) : OI3 Go Gi w0 w ob ib k1 k2 m1 n m2 s v2 L2 v3 L3 v1 L1 :=
  ⟨h.oi, h.own2, h.own3, h.own1, h.ap2, h.ap3, h.ap1, h.d23, fun g a b => h.d12 g b a, fun g a b => h.d13 g b a⟩
theorem OI3.pu (h : OI3 Go Gi w0 w ob ib k1 k2 m1 n m2 s v1 L1 v2 L2 v3 L3) {w' : World} (hp : Pu w w') : OI3 Go Gi w0 w' ob ib k1 k2 m1 n m2 s v1 L1 v2 L2 v3 L3 :=
  ⟨h.oi.pu hp, own_pu h.own1 hp, own_pu h.own2 hp, own_pu h.own3 hp, h.ap1, h.ap2, h.ap3, h.d12, h.d13, h.d23⟩
theorem OI3.start (h : OI Go Gi w0 w ob ib k1 k2 m1 n m2 s) : OI3 Go Gi w0 w ob ib k1 k2 m1 n m2 s (.slice none 0 0) [] (.slice none 0 0) [] (.slice none 0 0) [] :=
  ⟨h, World.ownsRow_nil _ _ _ _, World.ownsRow_nil _ _ _ _, World.ownsRow_nil _ _ _ _, fun _ h => (by cases h), fun _ h => (by cases h), fun _ h => (by cases h), fun _ h => (by cases h), fun _ h => (by cases h), fun _ h => (by cases h)⟩
theorem oi3Seal (h : OI3 Go Gi w0 w ob ib k1 k2 m1 n m2 s v1 L1 v2 L2 v3 L3) (hk : k1.length = 32) (p pp : Bs) (hp : padL p = some pp) (hn : n < 400) (hm : m1 ≤ 100000) (hl : p.length ≤ 140737488351232) :
    Calls Tryz.prog 9 #[.pointer (some ⟨ob, 0, none⟩), S p] w fun e w' => e = .returned (.tuple #[S (recL k1 n p), .int .i64 0]) ∧ OI3 (Gw Go w w') Gi w0 w' ob ib k1 k2 (m1+1) (n+1) m2 s v1 L1 v2 L2 v3 L3 := by
  refine (oiSeal h.oi hk p pp hp hn hm hl).mono ?_
  rintro e w' ⟨rfl, ho, hc⟩
  have key : ∀ {v : Value} {L : List Bs}, w.ownsRow w0.heap.size 9 1 v L.length (L.map S) → (∀ g, v.ownBlock = some g → ¬ Go g ∧ ¬ Gi g) → w'.ownsRow w0.heap.size 9 1 v L.length (L.map S) ∧ ∀ g, v.ownBlock = some g → ¬ Gw Go w w' g ∧ ¬ Gi g := fun ho ha => ⟨own_cg ho hc (fun g hg => (ha g hg).1), fun g hg => ⟨fun hh => by
    rcases hh with h1 | h1
    · exact (ha g hg).1 h1
    · have := (ho.lt g hg).2; omega, (ha g hg).2⟩⟩
  have a1 := key h.own1 h.ap1
  have a2 := key h.own2 h.ap2
  have a3 := key h.own3 h.ap3
  exact ⟨rfl, ho, a1.1, a2.1, a3.1, a1.2, a2.2, a3.2, h.d12, h.d13, h.d23⟩
theorem oi3Open (h : OI3 Go Gi w0 w ob ib k1 k2 m1 n m2 s v1 L1 v2 L2 v3 L3) (hk : k2.length = 32) (b : Bs) (hm : m2 ≤ 90000) (hb : b.length ≤ 90000) :
    Calls Tryz.prog 12 #[.pointer (some ⟨ib, 0, none⟩), S b] w fun e w' => ∃ v', e = .returned (.tuple #[v', .int .i64 ((openS k2 s b).1 : Int)]) ∧ w'.ownsRow w.heap.size 9 1 v' (openS k2 s b).2.1.length ((openS k2 s b).2.1.map S) ∧
      OI3 Go (fun g => Gw Gi w w' g ∧ v'.ownBlock ≠ some g) w0 w' ob ib k1 k2 m1 n (m2+1) (openS k2 s b).2.2 v1 L1 v2 L2 v3 L3 ∧ Cg Gi w w' := by
  refine (oiOpen h.oi hk b hm hb).mono ?_
  rintro e w' ⟨v', rfl, ho, hoi, hc⟩
  have key : ∀ {v : Value} {L : List Bs}, w.ownsRow w0.heap.size 9 1 v L.length (L.map S) → (∀ g, v.ownBlock = some g → ¬ Go g ∧ ¬ Gi g) → w'.ownsRow w0.heap.size 9 1 v L.length (L.map S) ∧ ∀ g, v.ownBlock = some g → ¬ Go g ∧ ¬ (Gw Gi w w' g ∧ v'.ownBlock ≠ some g) := fun ho ha => ⟨own_cg ho hc (fun g hg => (ha g hg).2), fun g hg => ⟨(ha g hg).1, fun hh => by
    rcases hh.1 with h1 | h1
    · exact (ha g hg).2 h1
    · have := (ho.lt g hg).2; omega⟩⟩
  have a1 := key h.own1 h.ap1
  have a2 := key h.own2 h.ap2
  have a3 := key h.own3 h.ap3
  exact ⟨v', rfl, ho, ⟨hoi, a1.1, a2.1, a3.1, a1.2, a2.2, a3.2, h.d12, h.d13, h.d23⟩, hc⟩
theorem OI3.chg (h : OI3 Go Gi w0 w ob ib k1 k2 m1 n m2 s v1 L1 v2 L2 v3 L3) {w' : World} {v' : Value} {L' : List Bs} (hc : Cg (fun g => v1.ownBlock = some g) w w') (ho : w'.ownsRow w0.heap.size 9 1 v' L'.length (L'.map S)) (hat : v'.ownBlock = v1.ownBlock ∨ v'.ownBlock = some w.heap.size) :
    OI3 Go Gi w0 w' ob ib k1 k2 m1 n m2 s v' L' v2 L2 v3 L3 := by
  refine ⟨h.oi.cg hc (fun g hg => (h.ap1 g hg).1) (fun g hg => (h.ap1 g hg).2) (fun g hg => (h.own1.lt g hg).1), ho, own_cg h.own2 hc (fun g a b => h.d12 g b a), own_cg h.own3 hc (fun g a b => h.d13 g b a), fun g hg => ?_, h.ap2, h.ap3, fun g hg hh => ?_, fun g hg hh => ?_, h.d23⟩
  · rcases hat with e | e
    · exact h.ap1 g (by rw [← e]; exact hg)
    · rw [e] at hg; cases hg
      refine ⟨fun hh => ?_, fun hh => ?_⟩
      · have := h.oi.o.dom _ hh; omega
      · have := h.oi.i.dom _ hh; omega
  · rcases hat with e | e
    · exact h.d12 g (by rw [← e]; exact hg) hh
    · rw [e] at hg; cases hg
      have := (h.own2.lt _ hh).2; omega
  · rcases hat with e | e
    · exact h.d13 g (by rw [← e]; exact hg) hh
    · rw [e] at hg; cases hg
      have := (h.own3.lt _ hh).2; omega
theorem Cg.grew {w w' : World} {v : Value} (hg : w.grownBy w' v.ownBlock) : Cg (fun g => v.ownBlock = some g) w w' := ⟨hg.os, hg.tape, hg.output, hg.size, fun k hk hn => hg.block k hk (fun e => hn e.symm)⟩
theorem OI3.push (h : OI3 Go Gi w0 w ob ib k1 k2 m1 n m2 s v1 L1 v2 L2 v3 L3) {w' : World} {v' : Value} {T : List Bs} {q : Nat} {vs : List Value} (ho : w'.ownsRow w0.heap.size 9 1 v' q vs) (hg : w.grownBy w' v1.ownBlock) (hat : v'.ownBlock = v1.ownBlock ∨ v'.ownBlock = some w.heap.size) (hq : q = L1.length + T.length) (hv : vs = L1.map S ++ T.map S) :
    OI3 Go Gi w0 w' ob ib k1 k2 m1 n m2 s v' (L1 ++ T) v2 L2 v3 L3 := by
  subst hq; subst hv
  exact h.chg (Cg.grew hg) (by simpa using ho) hat
end
end Go.Proofs.YtoakccknimoogaaGreat
namespace Go.Proofs.YtoakccknimoogaaGreat
open Go.RowKit Go.Esc
theorem own_base {w : World} {B B' e n : Nat} {v : Value} {xs : List Value} (h : w.ownsRow B' e 1 v n xs) (hB : B ≤ B') : w.ownsRow B e 1 v n xs := by
  refine ⟨h.1, ?_⟩
  rcases h.2 with h0 | ⟨g, cap, cur, hv, hg, rest⟩
  · exact .inl h0
  · exact .inr ⟨g, cap, cur, hv, Nat.le_trans hB hg, rest⟩
def refM (ir n : Nat) (w : World) : Nat := match w.cell? ⟨ir, 1, none⟩ with | some v => n - (intOf v).toNat | none => 0
theorem seqV_one (l : List (Nat × Bs)) : ∀ u ∈ seqV l, u.oneCell' = true := by intro u hu; obtain ⟨x, -, rfl⟩ := List.mem_map.1 hu; rfl
theorem txtV_one (l : List (Nat × Bs)) : ∀ u ∈ txtV l, u.oneCell' = true := by intro u hu; obtain ⟨x, -, rfl⟩ := List.mem_map.1 hu; rfl
/-- What holds in the loop that tells. -/
structure RLoop (w wr : World) (ir : Nat) (key : Bs) (N c : Nat) (f : Nat → Option Bs) (told : List Bs) (l : List (Nat × Bs)) (vq vt vo : Value) : Prop where
  row : Row wr ir 33 [S key, .int .i64 (N : Int), vq, vt]
  oq : wr.ownsRow w.heap.size 3 1 vq l.length (seqV l)
  ot : wr.ownsRow w.heap.size 9 1 vt l.length (txtV l)
  oo : wr.ownsRow w.heap.size 9 1 vo told.length (told.map S)
  lk : Lk l (cutF f N)
  len : l.length = c
  cg : Cg (fun g => g = ir) w wr
  ap : ∀ g, vo.ownBlock = some g → vt.ownBlock ≠ some g ∧ vq.ownBlock ≠ some g
  ir : ir < w.heap.size
theorem RLoop.final {G : Nat → Prop} {B : Nat} {w wr : World} {ir : Nat} {key : Bs} {f : Nat → Option Bs} {told : List Bs} {l : List (Nat × Bs)} {vq vt vo : Value} {s : InS} (h : RLoop w wr ir key s.n s.c f told l vq vt vo) (hf : s.f = cutF f s.n) (hG : G ir) (hB : B ≤ w.heap.size) (hd : ∀ g, G g → g < w.heap.size) (hl : ∀ g, G g → B ≤ g) (e : Nat) :
    RefR G B w wr ir key (e, told, s) vo := by
  refine ⟨h.oo, ⟨l, vq, vt, ⟨h.row, own_base h.oq hB, own_base h.ot hB, .inl hG, fun g hg => .inr (h.oq.lt g hg), fun g hg => .inr (h.ot.lt g hg), fun e => ?_, fun e => ?_, Gw.dom hd h.cg.size, fun g hg => ?_⟩, by rw [hf]; exact h.lk, h.len⟩, h.cg⟩
  · have := (h.oq.lt _ e).1; have := h.ir; omega
  · have := (h.ot.lt _ e).1; have := h.ir; omega
  · rcases hg with h1 | h1
    · exact hl g h1
    · omega
theorem RLoop.cells {w wr : World} {ir : Nat} {key : Bs} {N c : Nat} {f : Nat → Option Bs} {told : List Bs} {l : List (Nat × Bs)} {vq vt vo : Value} (h : RLoop w wr ir key N c f told l vq vt vo) : wr.cell? ⟨ir, 0, none⟩ = some (S key) ∧ wr.cell? ⟨ir, 1, none⟩ = some (.int .i64 (N : Int)) ∧ wr.cell? ⟨ir, 2, none⟩ = some vq ∧ wr.cell? ⟨ir, 3, none⟩ = some vt := by
  refine ⟨?_, ?_, ?_, ?_⟩
  · have := h.row.cell 0 (by simp); simpa using this
  · have := h.row.cell 1 (by simp); simpa using this
  · have := h.row.cell 2 (by simp); simpa using this
  · have := h.row.cell 3 (by simp); simpa using this
theorem RLoop.pu {w wr w' : World} {ir : Nat} {key : Bs} {N c : Nat} {f : Nat → Option Bs} {told : List Bs} {l : List (Nat × Bs)} {vq vt vo : Value} (h : RLoop w wr ir key N c f told l vq vt vo) (hp : Pu wr w') : RLoop w w' ir key N c f told l vq vt vo :=
  ⟨h.row.pu hp, own_pu h.oq hp, own_pu h.ot hp, own_pu h.oo hp, h.lk, h.len, h.cg.pu hp, h.ap, h.ir⟩
/-- One text more is told. -/
theorem RLoop.push {w wr w' : World} {ir : Nat} {key : Bs} {N c : Nat} {f : Nat → Option Bs} {told : List Bs} {l : List (Nat × Bs)} {vq vt vo : Value} (h : RLoop w wr ir key N c f told l vq vt vo) {v' : Value} {t : Bs} {q : Nat} (ho : w'.ownsRow w.heap.size 9 1 v' q (told.map S ++ [S t])) (hq : q = told.length + 1) (hg : wr.grownBy w' vo.ownBlock) (hat : v'.ownBlock = vo.ownBlock ∨ v'.ownBlock = some wr.heap.size) :
    RLoop w w' ir key N c f (told ++ [t]) l vq vt v' := by
  subst hq
  have hne : ∀ g, vo.ownBlock = some g → g ≠ ir := fun g e h1 => by have := (h.oo.lt g e).1; have := h.ir; omega
  have hc : Cg (fun g => vo.ownBlock = some g) wr w' := ⟨hg.os, hg.tape, hg.output, hg.size, fun k hk hn => hg.block k hk (fun e => hn e.symm)⟩
  refine ⟨hc.row h.row (fun e => hne _ e rfl), own_cgB h.oq hc (fun g a b => (h.ap g b).2 a), own_cgB h.ot hc (fun g a b => (h.ap g b).1 a), by simpa using ho, h.lk, h.len, h.cg.andThen hc (fun g e => .inr (h.oo.lt g e).1), fun g e => ?_, h.ir⟩
  rcases hat with h1 | h1
  · exact h.ap g (by rw [← h1]; exact e)
  · rw [h1] at e; cases e
    exact ⟨fun e => by have := (h.ot.lt _ e).2; omega, fun e => by have := (h.oq.lt _ e).2; omega⟩
theorem set2 {a b c d v : Value} : [a, b, c, d].set 2 v = [a, b, v, d] := rfl
theorem set3 {a b c d v : Value} : [a, b, c, d].set 3 v = [a, b, c, v] := rfl
theorem set1 {a b c d v : Value} : [a, b, c, d].set 1 v = [a, v, c, d] := rfl
end Go.Proofs.YtoakccknimoogaaGreat
