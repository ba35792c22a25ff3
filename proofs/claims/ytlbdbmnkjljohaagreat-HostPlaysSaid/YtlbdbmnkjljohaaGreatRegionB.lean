/- A law for regions that draw their order: writers one behind the other, each into a block of a set. -/
import Derived.Test.YtlbdbmnkjljohaaGreatT17
namespace Go.Proofs.YtlbdbmnkjljohaaGreat
open Go Go.RowKit Go.Esc
class StableC (G : Nat → Prop) (Φ : Value → World → Prop) : Prop where
  keep : ∀ v w w', Φ v w → Cg G w w' → Φ v w'
class AllStableC (G : Nat → Prop) (l : List (Value → World → Prop)) : Prop where
  keep : ∀ Φ ∈ l, ∀ v w w', Φ v w → Cg G w w' → Φ v w'
instance (G : Nat → Prop) (v : Value) : StableC G (Is v) := ⟨fun _ _ _ h _ => h⟩
instance (G : Nat → Prop) : StableC G Any := ⟨fun _ _ _ _ _ => trivial⟩
instance (G : Nat → Prop) : AllStableC G [] := ⟨fun _ h => by cases h⟩
instance (G : Nat → Prop) (Φ : Value → World → Prop) (l : List (Value → World → Prop)) [h : StableC G Φ] [k : AllStableC G l] : AllStableC G (Φ :: l) := ⟨fun Ψ hm => by
  rcases List.mem_cons.1 hm with rfl | hm
  · exact h.keep
  · exact k.keep Ψ hm⟩
section
variable {P : Program} {ops : Array Oper} {Q : Exit → Act → World → Prop}
/-- What is asked of an operation: of the chain's number s, that it leads from state s to the next one; of another one, that it makes new blocks at most. -/
def OpOkB (P : Program) (ops : Array Oper) (Q : Exit → Act → World → Prop) (G : Nat → Prop) (up : List (List Nat)) (chain : List Nat) (C : Nat → World → Prop) (Φs : List (Value → World → Prop)) (a : Act) (w : World) (i : Nat) (o : Oper) : Prop :=
  ∀ (a' : Act) (w' : World) (s : Nat), (∀ t : Nat, isDst ops t = false → a'.tmps[t]?.getD undef = a.tmps[t]?.getD undef) → Cg G w w' → C s w' → loOf up chain i ≤ s → s ≤ hiOf up chain i →
    (∀ e ∈ o.after.toList, Region.binds .any e = true → Φs.getD e.on Any (match (ops[e.on]?).bind (·.dst) with | some d => a'.tmps[d]?.getD undef | none => undef) w') →
    if chain.contains i then (chain[s]? = some i → wpOp P ops Q i (fun a'' w'' => ∃ v, a'' = a'.put o.dst v ∧ (Φs.getD i Any (if o.dst.isSome then v else undef) w'' ∧ C (s+1) w'') ∧ Cg G w' w'') a' w')
    else wpOp P ops Q i (fun a'' w'' => ∃ v, a'' = a'.put o.dst v ∧ Φs.getD i Any (if o.dst.isSome then v else undef) w'' ∧ Pu w' w'') a' w'
theorem region_chainG (id : Nat) (G : Nat → Prop) (chain : List Nat) (C : Nat → World → Prop) (Φs : List (Value → World → Prop)) {a : Act} {w : World}
    (hm : P.follows .mixedOrders = true) (hE : edgesBack ops = true) (hD : dstsApart ops = true) (hup : upOk ops (ups ops) = true) (hch : chainOk (ups ops) chain ops.size = true)
    [hΦ : AllStableC G Φs] (hC : ∀ s a b, C s a → Pu a b → C s b) (hC0 : C 0 w)
    (hsize : (ops.toList.all fun o => match o.dst with | some d => decide (d < a.tmps.size) | none => true) = true)
    (hop : AllOps (OpOkB P ops Q G (ups ops) chain C Φs a w) 0 ops.toList)
    (hend : ∀ (a' : Act) (w' : World), a'.defers = a.defers → a'.tmps.size = a.tmps.size → (∀ t : Nat, isDst ops t = false → a'.tmps[t]?.getD undef = a.tmps[t]?.getD undef) → Cg G w w' → C chain.length w' →
      AllOps (fun j oj => Φs.getD j Any (match oj.dst with | some d => a'.tmps[d]?.getD undef | none => undef) w') 0 ops.toList → Q .normal a' w') :
    (Code.region id ops true).wp P Q a w := by
  refine wp_region_any hm ?_
  obtain ⟨up, hupe⟩ : ∃ up, up = ups ops := ⟨_, rfl⟩
  rw [← hupe] at hup hch hop
  clear hupe
  let Φ : Nat → Value → World → Prop := fun i => Φs.getD i Any
  have hkeep : ∀ i v a b, Φ i v a → Cg G a b → Φ i v b := by
    intro i v a b h hc
    by_cases hi : i < Φs.length
    · have e : Φs.getD i Any = Φs[i] := by simp [List.getD, List.getElem?_eq_getElem hi]
      simp only [Φ, e] at h ⊢
      exact hΦ.keep _ (List.getElem_mem hi) _ _ _ h hc
    · have e : Φs.getD i Any = Any := by simp [List.getD, List.getElem?_eq_none (by omega : Φs.length ≤ i)]
      simp only [Φ, e]; trivial
  have hchain : ∀ q, q < chain.length → chain.getD q 0 < ops.size ∧ ∀ r, r < q → (up.getD (chain.getD q 0) []).contains (chain.getD r 0) = true ∧ chain.getD q 0 ≠ chain.getD r 0 := by
    intro q hq
    simp only [chainOk, List.all_eq_true, List.mem_range, Bool.and_eq_true, decide_eq_true_eq] at hch
    obtain ⟨h1, h2⟩ := hch q hq
    refine ⟨h1, fun r hr => ?_⟩
    obtain ⟨h3, h4⟩ := h2 r hr
    exact ⟨h3, by simpa using h4⟩
  have hinj : ∀ q r, q < chain.length → r < chain.length → chain.getD q 0 = chain.getD r 0 → q = r := by
    intro q r hq hr he
    rcases Nat.lt_trichotomy q r with h | h | h
    · exact absurd he.symm ((hchain r hr).2 q h).2
    · exact h
    · exact absurd he ((hchain q hq).2 r h).2
  let Inv : Array Bool → Act → World → Prop := fun listed a' w' => listed.size = ops.size ∧ a'.defers = a.defers ∧ a'.tmps.size = a.tmps.size ∧
    (∀ t : Nat, isDst ops t = false → a'.tmps[t]?.getD undef = a.tmps[t]?.getD undef) ∧ Cg G w w' ∧
    (∀ j, listed[j]? = some true → ∀ k, (up.getD j []).contains k = true → listed[k]? = some true) ∧
    (∃ s, s ≤ chain.length ∧ C s w' ∧ ∀ q, q < chain.length → (listed[chain.getD q 0]? = some true ↔ q < s)) ∧
    ∀ (j : Nat) (oj : Oper), ops[j]? = some oj → listed[j]? = some true → Φ j (match oj.dst with | some d => a'.tmps[d]?.getD undef | none => undef) w'
  refine wpAny_inv .any Inv ?_ ?_ (fun _ _ _ h => h.1) ops.size _ a _ ?_ ?_
  · intro listed a' w' ⟨h1, h2, h3, h4, h5, hcl, ⟨s, hs1, hs2, hs3⟩, h6⟩ i hi
    simp only [Region.ready, List.mem_filter, List.mem_range, Bool.and_eq_true, Bool.not_eq_true'] at hi
    obtain ⟨hi1, hi2, hi3⟩ := hi
    have ho : ops[i]? = some ops[i] := Array.getElem?_eq_getElem hi1
    have hlt : i < listed.size := by omega
    have hif : listed[i]? = some false := by
      simp [Array.getD_eq_getD_getElem?, Array.getElem?_eq_getElem hlt] at hi2
      rw [Array.getElem?_eq_getElem hlt, hi2]
    have haw : ∀ e ∈ ops[i].after.toList, Region.binds .any e = true → listed[e.on]? = some true := by
      intro e he hb
      rw [ho] at hi3
      simp only [Option.map_some, Option.getD_some, Array.all_eq_true_iff_forall_mem] at hi3
      have h7 := hi3 e (by simpa using he)
      simp only [hb, Bool.not_true, Bool.false_or] at h7
      cases hq : listed[e.on]? with
      | none => simp [Array.getD_eq_getD_getElem?, hq] at h7
      | some x => simp [Array.getD_eq_getD_getElem?, hq] at h7; rw [h7]
    have hupi : ∀ k, (up.getD i []).contains k = true → listed[k]? = some true := by
      intro k hk
      simp only [upOk, List.all_eq_true, List.mem_range] at hup
      have h8 := hup i hi1 k (by simpa using hk)
      simp only [List.any_eq_true, Bool.or_eq_true, beq_iff_eq] at h8
      obtain ⟨e, he, hek⟩ := h8
      simp only [awaits, ho, Option.map_some, Option.getD_some, List.mem_map, List.mem_filter] at he
      obtain ⟨ed, ⟨hed1, hed2⟩, rfl⟩ := he
      have h9 := haw ed hed1 hed2
      rcases hek with rfl | hek
      · exact h9
      · exact hcl _ h9 k hek
    have hlo : loOf up chain i ≤ s := loOf_le fun q hq hc => (hs3 q hq).1 (hupi _ hc)
    have hhi : s ≤ hiOf up chain i := hiOf_ge hs1 fun q hq hc => by
      apply Nat.le_of_not_lt; intro hqs
      have h0 := (hs3 q hq).2 hqs
      have : listed[i]? = some true := by
        rcases Bool.or_eq_true _ _ ▸ hc with hc | hc
        · exact hcl _ h0 i hc
        · rw [← (by simpa using hc : chain.getD q 0 = i)]; exact h0
      rw [hif] at this; cases this
    have hk := hop.get i ops[i] (by simp)
    rw [Nat.zero_add] at hk
    have hk2 := hk a' w' s h4 h5 hs2 hlo hhi (fun e he hb => by
      have h8 := haw e he hb
      have hlt : e.on < ops.size := by
        have := (Array.getElem?_eq_some_iff.1 h8).1; omega
      have h9 := h6 e.on ops[e.on] (Array.getElem?_eq_getElem hlt) h8
      rw [Array.getElem?_eq_getElem hlt]
      exact h9)
    have hstep : ∀ (v : Value) (w'' : World), Φs.getD i Any (if ops[i].dst.isSome then v else undef) w'' → Cg G w' w'' → (∃ s', s' ≤ chain.length ∧ C s' w'' ∧ ∀ q, q < chain.length → ((listed.setIfInBounds i true)[chain.getD q 0]? = some true ↔ q < s')) →
        Inv (listed.setIfInBounds i true) (a'.put ops[i].dst v) w'' := by
      intro v w'' hv hR hS
      refine ⟨by simpa using h1, ?_, ?_, ?_, h5.trans hR, ?_, hS, ?_⟩
      · cases ops[i].dst <;> exact h2
      · cases ops[i].dst <;> simp [Act.put, h3]
      · intro t ht
        rw [← h4 t ht]
        have hne0 : ops[i].dst ≠ some t := by
          intro e
          have : isDst ops t = true := by
            simp only [isDst, Array.any_eq_true]
            exact ⟨i, hi1, by rw [e]; simp⟩
          rw [ht] at this; cases this
        cases hd : ops[i].dst with
        | none => rfl
        | some d =>
          have hne : d ≠ t := fun e => hne0 (by rw [hd, e])
          simp [Act.put, Array.getElem?_setIfInBounds_ne hne]
      · intro j hj k hk
        have hkl : listed[k]? = some true := by
          by_cases hij : i = j
          · subst hij; exact hupi k hk
          · rw [Array.getElem?_setIfInBounds_ne hij] at hj; exact hcl j hj k hk
        by_cases hik : i = k
        · subst hik; rw [Array.getElem?_setIfInBounds_self, if_pos hlt]
        · rw [Array.getElem?_setIfInBounds_ne hik]; exact hkl
      · intro j oj hj hl
        by_cases hij : i = j
        · subst hij
          rw [ho] at hj; cases hj
          cases hd : ops[i].dst with
          | none => rw [hd] at hv; exact hv
          | some d =>
            rw [hd] at hv
            have hdl : d < a'.tmps.size := by
              rw [h3]
              have := List.all_eq_true.1 hsize ops[i] (by simp)
              rw [hd] at this; simpa using this
            have hv' : Φ i v w'' := hv
            simpa [Act.put, Array.getElem?_setIfInBounds_self, hdl] using hv'
        · have hl' : listed[j]? = some true := by rw [Array.getElem?_setIfInBounds_ne hij] at hl; exact hl
          have hold := hkeep j _ _ _ (h6 j oj hj hl') hR
          cases hd2 : oj.dst with
          | none => rw [hd2] at hold; exact hold
          | some d2 =>
            rw [hd2] at hold
            cases hd : ops[i].dst with
            | none => exact hold
            | some d =>
              have hne : d ≠ d2 := by
                simp only [dstsApart, List.all_eq_true, List.mem_range] at hD
                have hj1 : j < ops.size := (Array.getElem?_eq_some_iff.1 hj).1
                have := hD i hi1 j hj1
                rw [ho, hj] at this
                simp [hd, hd2, hij] at this
                exact this
              simpa [Act.put, Array.getElem?_setIfInBounds_ne hne] using hold
    by_cases hic : chain.contains i = true
    · rw [if_pos hic] at hk2
      obtain ⟨q, hq, hqi⟩ := List.getElem_of_mem (by simpa using hic : i ∈ chain)
      have hqd : chain.getD q 0 = i := by rw [List.getD_eq_getElem?_getD, List.getElem?_eq_getElem hq]; exact hqi
      have hqs : q = s := by
        have h10 : ¬ q < s := fun h => by
          have := (hs3 q hq).2 h
          rw [hqd, hif] at this; cases this
        rcases Nat.lt_or_ge s q with h11 | h11
        · have := ((hchain q hq).2 s h11).1
          rw [hqd] at this
          have h12 := (hs3 s (by omega)).1 (hupi _ this)
          omega
        · omega
      subst hqs
      refine wpOp_mono ?_ (hk2 (by rw [List.getElem?_eq_getElem hq, hqi]))
      rintro a'' w'' ⟨v, rfl, ⟨hv, hCs⟩, hR⟩
      refine hstep v w'' hv hR ⟨q + 1, by omega, hCs, fun r hr => ?_⟩
      by_cases hrq : r = q
      · subst hrq
        rw [hqd, Array.getElem?_setIfInBounds_self, if_pos hlt]; simp
      · have hne : i ≠ chain.getD r 0 := fun h => hrq (hinj r q hr hq (by rw [hqd, ← h]))
        rw [Array.getElem?_setIfInBounds_ne hne, hs3 r hr]; omega
    · rw [if_neg hic] at hk2
      refine wpOp_mono ?_ hk2
      rintro a'' w'' ⟨v, rfl, hv, hR⟩
      refine hstep v w'' hv (Cg.ofPu hR) ⟨s, hs1, hC s _ _ hs2 hR, fun r hr => ?_⟩
      have hne : i ≠ chain.getD r 0 := fun h => hic (by
        simp only [List.contains_eq_mem, decide_eq_true_eq]
        rw [h, List.getD_eq_getElem?_getD, List.getElem?_eq_getElem hr]; exact List.getElem_mem hr)
      rw [Array.getElem?_setIfInBounds_ne hne, hs3 r hr]
  · intro listed a' w' ⟨h1, h2, h3, h4, h5, hcl, ⟨s, hs1, hs2, hs3⟩, h6⟩ hr
    have hall := ready_nil hE listed h1 hr
    have hse : s = chain.length := by
      rcases Nat.lt_or_ge s chain.length with h | h
      · have := (hs3 s h).1 (hall _ (hchain s h).1); omega
      · omega
    subst hse
    refine hend a' w' h2 h3 h4 h5 hs2 (AllOps.mk' _ _ fun j o hj => ?_)
    rw [Nat.zero_add]
    have hj' : ops[j]? = some o := by simpa using hj
    exact h6 j o hj' (hall j (Array.getElem?_eq_some_iff.1 hj').1)
  · have hch : Pu w { w with drawn := w.drawn + 1 } := ⟨rfl, rfl, rfl, Nat.le_refl _, fun _ _ => rfl⟩
    have hfalse : ∀ (j : Nat), (Array.replicate ops.size false)[j]? ≠ some true := by
      intro j h
      by_cases hj : j < ops.size
      · rw [Array.getElem?_replicate, if_pos hj] at h; cases h
      · rw [Array.getElem?_replicate, if_neg hj] at h; cases h
    exact ⟨by simp, rfl, rfl, fun _ _ => rfl, Cg.ofPu hch, fun j hj => absurd hj (hfalse j), ⟨0, Nat.zero_le _, hC 0 _ _ hC0 hch, fun q hq => ⟨fun h => absurd h (hfalse _), fun h => absurd h (Nat.not_lt_zero _)⟩⟩, fun j oj hj hl => absurd hl (hfalse j)⟩
  · rw [Array.toList_replicate, List.count_replicate_self]; exact Nat.le_refl _
theorem op_doneG {G : Nat → Prop} {Φ : Value → World → Prop} {C : World → Prop} {i : Nat} {o : Oper} {a' : Act} {w' w'' : World} (ho : ops[i]? = some o) (hw : Region.wanted o (yielded ops a'.tmps) = true)
    (hrun : (execOp a'.eval o).run P w' = .ok .skip w'') (hφ : Φ (if o.dst.isSome then undef else undef) w'') (hC : C w'') (hp : Cg G w' w'') :
    wpOp P ops Q i (fun a'' w'' => ∃ v, a'' = a'.put o.dst v ∧ (Φ (if o.dst.isSome then v else undef) w'' ∧ C w'') ∧ Cg G w' w'') a' w' := by
  unfold wpOp
  simp only [ho, hw, if_true]
  refine .inl ?_
  unfold Oper.wp
  rw [hrun]
  exact ⟨undef, rfl, ⟨hφ, hC⟩, hp⟩
end
end Go.Proofs.YtlbdbmnkjljohaaGreat
