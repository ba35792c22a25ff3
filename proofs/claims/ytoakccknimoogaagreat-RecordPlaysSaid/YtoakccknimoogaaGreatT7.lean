/- A law for regions that draw their order, some operations of which, one behind the other, change a block. Maps in a walk: block b holds, for each key, a value or none. Package record: the keys of epochs. Worlds that differ in new blocks and in those of a set. Four words mixed: package stream's and the document's. -/
import Derived.Test.YtoakccknimoogaaGreatT6
import Derived.Maps.OwnSet
set_option linter.unusedSimpArgs false
set_option linter.unusedVariables false
namespace Go.Esc
open Go Go.RowKit
/-- What an operation awaits. -/
def awaits (ops : Array Oper) (i : Nat) : List Nat := ((ops[i]?).map fun o => (o.after.toList.filter fun e => Region.binds .any e).map (·.on)).getD []
/-- For each operation those that it awaits, also through others. -/
def ups (ops : Array Oper) : List (List Nat) := (List.range ops.size).foldl (fun acc i => acc ++ [((awaits ops i) ++ (awaits ops i).flatMap (fun e => acc.getD e [])).eraseDups]) []
def upOk (ops : Array Oper) (up : List (List Nat)) : Bool := (List.range ops.size).all fun i => (up.getD i []).all fun k => (awaits ops i).any fun e => e == k || (up.getD e []).contains k
def chainOk (up : List (List Nat)) (chain : List Nat) (n : Nat) : Bool := (List.range chain.length).all fun q => decide (chain.getD q 0 < n) && (List.range q).all fun r => (up.getD (chain.getD q 0) []).contains (chain.getD r 0) && !(chain.getD q 0 == chain.getD r 0)
def loOf (up : List (List Nat)) (chain : List Nat) (i : Nat) : Nat := (List.range chain.length).foldl (fun m q => if (up.getD i []).contains (chain.getD q 0) then q + 1 else m) 0
def hiOf (up : List (List Nat)) (chain : List Nat) (i : Nat) : Nat := (List.range chain.length).foldr (fun q m => if (up.getD (chain.getD q 0) []).contains i || chain.getD q 0 == i then q else m) chain.length
theorem loOf_le {up : List (List Nat)} {chain : List Nat} {i s : Nat} (h : ∀ q, q < chain.length → (up.getD i []).contains (chain.getD q 0) = true → q < s) : loOf up chain i ≤ s := by
 have key : ∀ (l : List Nat) (m : Nat), m ≤ s → (∀ q ∈ l, q < chain.length) → l.foldl (fun m q => if (up.getD i []).contains (chain.getD q 0) then q + 1 else m) m ≤ s := by
  intro l
  induction l with
  | nil => intro m hm _; exact hm
  | cons q l ih =>
    intro m hm hl
    simp only [List.foldl_cons]
    refine ih _ ?_ fun q' hq => hl q' (by simp [hq])
    split
    · next hc => exact h q (hl q (by simp)) hc
    · exact hm
 exact key _ 0 (Nat.zero_le _) fun q hq => List.mem_range.1 hq
theorem hiOf_ge {up : List (List Nat)} {chain : List Nat} {i s : Nat} (hs : s ≤ chain.length) (h : ∀ q, q < chain.length → ((up.getD (chain.getD q 0) []).contains i || chain.getD q 0 == i) = true → s ≤ q) : s ≤ hiOf up chain i := by
 have key : ∀ (l : List Nat), (∀ q ∈ l, q < chain.length) → s ≤ l.foldr (fun q m => if (up.getD (chain.getD q 0) []).contains i || chain.getD q 0 == i then q else m) chain.length := by
  intro l
  induction l with
  | nil => intro _; exact hs
  | cons q l ih =>
    intro hl
    simp only [List.foldr_cons]
    split
    · next hc => exact h q (hl q (by simp)) hc
    · exact ih fun q' hq => hl q' (by simp [hq])
 exact key _ fun q hq => List.mem_range.1 hq
section
variable {P : Program} {ops : Array Oper} {Q : Exit → Act → World → Prop}
/-- What is asked of an operation: of the chain's number s, that it leads from state s to the next one; of another one, that it makes new blocks at most. -/
def OpOkC (P : Program) (ops : Array Oper) (Q : Exit → Act → World → Prop) (g : Nat) (up : List (List Nat)) (chain : List Nat) (C : Nat → World → Prop) (Φs : List (Value → World → Prop)) (a : Act) (w : World) (i : Nat) (o : Oper) : Prop :=
 ∀ (a' : Act) (w' : World) (s : Nat), (∀ t : Nat, isDst ops t = false → a'.tmps[t]?.getD undef = a.tmps[t]?.getD undef) → But g w w' → C s w' → loOf up chain i ≤ s → s ≤ hiOf up chain i →
   (∀ e ∈ o.after.toList, Region.binds .any e = true → Φs.getD e.on Any (match (ops[e.on]?).bind (·.dst) with | some d => a'.tmps[d]?.getD undef | none => undef) w') →
   if chain.contains i then (chain[s]? = some i → wpOp P ops Q i (fun a'' w'' => ∃ v, a'' = a'.put o.dst v ∧ (Φs.getD i Any (if o.dst.isSome then v else undef) w'' ∧ C (s+1) w'') ∧ But g w' w'') a' w')
   else wpOp P ops Q i (fun a'' w'' => ∃ v, a'' = a'.put o.dst v ∧ Φs.getD i Any (if o.dst.isSome then v else undef) w'' ∧ Pu w' w'') a' w'
theorem region_chain (id : Nat) (g : Nat) (chain : List Nat) (C : Nat → World → Prop) (Φs : List (Value → World → Prop)) {a : Act} {w : World}
 (hm : P.follows .mixedOrders = true) (hE : edgesBack ops = true) (hD : dstsApart ops = true) (hup : upOk ops (ups ops) = true) (hch : chainOk (ups ops) chain ops.size = true)
 [hΦ : AllStableB g Φs] (hC : ∀ s a b, C s a → Pu a b → C s b) (hC0 : C 0 w)
 (hsize : (ops.toList.all fun o => match o.dst with | some d => decide (d < a.tmps.size) | none => true) = true)
 (hop : AllOps (OpOkC P ops Q g (ups ops) chain C Φs a w) 0 ops.toList)
 (hend : ∀ (a' : Act) (w' : World), a'.defers = a.defers → a'.tmps.size = a.tmps.size → (∀ t : Nat, isDst ops t = false → a'.tmps[t]?.getD undef = a.tmps[t]?.getD undef) → But g w w' → C chain.length w' →
   AllOps (fun j oj => Φs.getD j Any (match oj.dst with | some d => a'.tmps[d]?.getD undef | none => undef) w') 0 ops.toList → Q .normal a' w') :
 (Code.region id ops true).wp P Q a w := by
 refine wp_region_any hm ?_
 obtain ⟨up, hupe⟩ : ∃ up, up = ups ops := ⟨_, rfl⟩
 rw [← hupe] at hup hch hop
 clear hupe
 let Φ : Nat → Value → World → Prop := fun i => Φs.getD i Any
 have hkeep : ∀ i v a b, Φ i v a → But g a b → Φ i v b := by
  intro i v a b h hc
  by_cases hi : i < Φs.length
  · have e : Φs.getD i Any = Φs[i] := by simp [List.getD, List.getElem?_eq_getElem hi]
    simp only [Φ, e] at h ⊢
    exact hΦ.keep _ (List.getElem_mem hi) _ _ _ h hc
  · have e : Φs.getD i Any = Any := by simp [List.getD, List.getElem?_eq_none (by omega : Φs.length ≤ i)]
    simp only [Φ, e]; trivial
 have hchain : ∀ q, q < chain.length → chain.getD q 0 < ops.size ∧ ∀ r, r < q → (up.getD (chain.getD q 0) []).contains (chain.getD r 0) = true ∧ chain.getD q 0 ≠ chain.getD r 0 := by
  intro q hq
  simp only [chainOk, List.all_eq_true, List.mem_range, Bool.and_eq_true, decide_eq_true_eq] at hch
  obtain ⟨h1, h2⟩ := hch q hq
  refine ⟨h1, fun r hr => ?_⟩
  obtain ⟨h3, h4⟩ := h2 r hr
  exact ⟨h3, by simpa using h4⟩
 have hinj : ∀ q r, q < chain.length → r < chain.length → chain.getD q 0 = chain.getD r 0 → q = r := by
  intro q r hq hr he
  rcases Nat.lt_trichotomy q r with h | h | h
  · exact absurd he.symm ((hchain r hr).2 q h).2
  · exact h
  · exact absurd he ((hchain q hq).2 r h).2
 let Inv : Array Bool → Act → World → Prop := fun listed a' w' => listed.size = ops.size ∧ a'.defers = a.defers ∧ a'.tmps.size = a.tmps.size ∧
  (∀ t : Nat, isDst ops t = false → a'.tmps[t]?.getD undef = a.tmps[t]?.getD undef) ∧ But g w w' ∧
  (∀ j, listed[j]? = some true → ∀ k, (up.getD j []).contains k = true → listed[k]? = some true) ∧
  (∃ s, s ≤ chain.length ∧ C s w' ∧ ∀ q, q < chain.length → (listed[chain.getD q 0]? = some true ↔ q < s)) ∧
  ∀ (j : Nat) (oj : Oper), ops[j]? = some oj → listed[j]? = some true → Φ j (match oj.dst with | some d => a'.tmps[d]?.getD undef | none => undef) w'
 refine wpAny_inv .any Inv ?_ ?_ (fun _ _ _ h => h.1) ops.size _ a _ ?_ ?_
 · intro listed a' w' ⟨h1, h2, h3, h4, h5, hcl, ⟨s, hs1, hs2, hs3⟩, h6⟩ i hi
   simp only [Region.ready, List.mem_filter, List.mem_range, Bool.and_eq_true, Bool.not_eq_true'] at hi
   obtain ⟨hi1, hi2, hi3⟩ := hi
   have ho : ops[i]? = some ops[i] := Array.getElem?_eq_getElem hi1
   have hlt : i < listed.size := by omega
   have hif : listed[i]? = some false := by
    simp [Array.getD_eq_getD_getElem?, Array.getElem?_eq_getElem hlt] at hi2
    rw [Array.getElem?_eq_getElem hlt, hi2]
   have haw : ∀ e ∈ ops[i].after.toList, Region.binds .any e = true → listed[e.on]? = some true := by
    intro e he hb
    rw [ho] at hi3
    simp only [Option.map_some, Option.getD_some, Array.all_eq_true_iff_forall_mem] at hi3
    have h7 := hi3 e (by simpa using he)
    simp only [hb, Bool.not_true, Bool.false_or] at h7
    cases hq : listed[e.on]? with
    | none => simp [Array.getD_eq_getD_getElem?, hq] at h7
    | some x => simp [Array.getD_eq_getD_getElem?, hq] at h7; rw [h7]
   have hupi : ∀ k, (up.getD i []).contains k = true → listed[k]? = some true := by
    intro k hk
    simp only [upOk, List.all_eq_true, List.mem_range] at hup
    have h8 := hup i hi1 k (by simpa using hk)
    simp only [List.any_eq_true, Bool.or_eq_true, beq_iff_eq] at h8
    obtain ⟨e, he, hek⟩ := h8
    simp only [awaits, ho, Option.map_some, Option.getD_some, List.mem_map, List.mem_filter] at he
    obtain ⟨ed, ⟨hed1, hed2⟩, rfl⟩ := he
    have h9 := haw ed hed1 hed2
    rcases hek with rfl | hek
    · exact h9
    · exact hcl _ h9 k hek
   have hlo : loOf up chain i ≤ s := loOf_le fun q hq hc => (hs3 q hq).1 (hupi _ hc)
   have hhi : s ≤ hiOf up chain i := hiOf_ge hs1 fun q hq hc => by
    apply Nat.le_of_not_lt; intro hqs
    have h0 := (hs3 q hq).2 hqs
    have : listed[i]? = some true := by
     rcases Bool.or_eq_true _ _ ▸ hc with hc | hc
     · exact hcl _ h0 i hc
     · rw [← (by simpa using hc : chain.getD q 0 = i)]; exact h0
    rw [hif] at this; cases this
   have hk := hop.get i ops[i] (by simp)
   rw [Nat.zero_add] at hk
   have hk2 := hk a' w' s h4 h5 hs2 hlo hhi (fun e he hb => by
    have h8 := haw e he hb
    have hlt : e.on < ops.size := by
     have := (Array.getElem?_eq_some_iff.1 h8).1; omega
    have h9 := h6 e.on ops[e.on] (Array.getElem?_eq_getElem hlt) h8
    rw [Array.getElem?_eq_getElem hlt]
    exact h9)
   have hstep : ∀ (v : Value) (w'' : World), Φs.getD i Any (if ops[i].dst.isSome then v else undef) w'' → But g w' w'' → (∃ s', s' ≤ chain.length ∧ C s' w'' ∧ ∀ q, q < chain.length → ((listed.setIfInBounds i true)[chain.getD q 0]? = some true ↔ q < s')) →
    Inv (listed.setIfInBounds i true) (a'.put ops[i].dst v) w'' := by
    intro v w'' hv hR hS
    refine ⟨by simpa using h1, ?_, ?_, ?_, h5.trans hR, ?_, hS, ?_⟩
    · cases ops[i].dst <;> exact h2
    · cases ops[i].dst <;> simp [Act.put, h3]
    · intro t ht
      rw [← h4 t ht]
      have hne0 : ops[i].dst ≠ some t := by
       intro e
       have : isDst ops t = true := by
        simp only [isDst, Array.any_eq_true]
        exact ⟨i, hi1, by rw [e]; simp⟩
       rw [ht] at this; cases this
      cases hd : ops[i].dst with
      | none => rfl
      | some d =>
        have hne : d ≠ t := fun e => hne0 (by rw [hd, e])
        simp [Act.put, Array.getElem?_setIfInBounds_ne hne]
    · intro j hj k hk
      have hkl : listed[k]? = some true := by
       by_cases hij : i = j
       · subst hij; exact hupi k hk
       · rw [Array.getElem?_setIfInBounds_ne hij] at hj; exact hcl j hj k hk
      by_cases hik : i = k
      · subst hik; rw [Array.getElem?_setIfInBounds_self, if_pos hlt]
      · rw [Array.getElem?_setIfInBounds_ne hik]; exact hkl
    · intro j oj hj hl
      by_cases hij : i = j
      · subst hij
        rw [ho] at hj; cases hj
        cases hd : ops[i].dst with
        | none => rw [hd] at hv; exact hv
        | some d =>
          rw [hd] at hv
          have hdl : d < a'.tmps.size := by
           rw [h3]
           have := List.all_eq_true.1 hsize ops[i] (by simp)
           rw [hd] at this; simpa using this
          have hv' : Φ i v w'' := hv
          simpa [Act.put, Array.getElem?_setIfInBounds_self, hdl] using hv'
      · have hl' : listed[j]? = some true := by rw [Array.getElem?_setIfInBounds_ne hij] at hl; exact hl
        have hold := hkeep j _ _ _ (h6 j oj hj hl') hR
        cases hd2 : oj.dst with
        | none => rw [hd2] at hold; exact hold
        | some d2 =>
          rw [hd2] at hold
          cases hd : ops[i].dst with
          | none => exact hold
          | some d =>
            have hne : d ≠ d2 := by
             simp only [dstsApart, List.all_eq_true, List.mem_range] at hD
             have hj1 : j < ops.size := (Array.getElem?_eq_some_iff.1 hj).1
             have := hD i hi1 j hj1
             rw [ho, hj] at this
             simp [hd, hd2, hij] at this
             exact this
            simpa [Act.put, Array.getElem?_setIfInBounds_ne hne] using hold
   by_cases hic : chain.contains i = true
   · rw [if_pos hic] at hk2
     obtain ⟨q, hq, hqi⟩ := List.getElem_of_mem (by simpa using hic : i ∈ chain)
     have hqd : chain.getD q 0 = i := by rw [List.getD_eq_getElem?_getD, List.getElem?_eq_getElem hq]; exact hqi
     have hqs : q = s := by
      have h10 : ¬ q < s := fun h => by
       have := (hs3 q hq).2 h
       rw [hqd, hif] at this; cases this
      rcases Nat.lt_or_ge s q with h11 | h11
      · have := ((hchain q hq).2 s h11).1
        rw [hqd] at this
        have h12 := (hs3 s (by omega)).1 (hupi _ this)
        omega
      · omega
     subst hqs
     refine wpOp_mono ?_ (hk2 (by rw [List.getElem?_eq_getElem hq, hqi]))
     rintro a'' w'' ⟨v, rfl, ⟨hv, hCs⟩, hR⟩
     refine hstep v w'' hv hR ⟨q + 1, by omega, hCs, fun r hr => ?_⟩
     by_cases hrq : r = q
     · subst hrq
       rw [hqd, Array.getElem?_setIfInBounds_self, if_pos hlt]; simp
     · have hne : i ≠ chain.getD r 0 := fun h => hrq (hinj r q hr hq (by rw [hqd, ← h]))
       rw [Array.getElem?_setIfInBounds_ne hne, hs3 r hr]; omega
   · rw [if_neg hic] at hk2
     refine wpOp_mono ?_ hk2
     rintro a'' w'' ⟨v, rfl, hv, hR⟩
     refine hstep v w'' hv (But.pu hR) ⟨s, hs1, hC s _ _ hs2 hR, fun r hr => ?_⟩
     have hne : i ≠ chain.getD r 0 := fun h => hic (by
      simp only [List.contains_eq_mem, decide_eq_true_eq]
      rw [h, List.getD_eq_getElem?_getD, List.getElem?_eq_getElem hr]; exact List.getElem_mem hr)
     rw [Array.getElem?_setIfInBounds_ne hne, hs3 r hr]
 · intro listed a' w' ⟨h1, h2, h3, h4, h5, hcl, ⟨s, hs1, hs2, hs3⟩, h6⟩ hr
   have hall := ready_nil hE listed h1 hr
   have hse : s = chain.length := by
    rcases Nat.lt_or_ge s chain.length with h | h
    · have := (hs3 s h).1 (hall _ (hchain s h).1); omega
    · omega
   subst hse
   refine hend a' w' h2 h3 h4 h5 hs2 (AllOps.mk' _ _ fun j o hj => ?_)
   rw [Nat.zero_add]
   have hj' : ops[j]? = some o := by simpa using hj
   exact h6 j o hj' (hall j (Array.getElem?_eq_some_iff.1 hj').1)
 · have hch : Pu w { w with drawn := w.drawn + 1 } := ⟨rfl, rfl, rfl, Nat.le_refl _, fun _ _ => rfl⟩
   have hfalse : ∀ (j : Nat), (Array.replicate ops.size false)[j]? ≠ some true := by
    intro j h
    by_cases hj : j < ops.size
    · rw [Array.getElem?_replicate, if_pos hj] at h; cases h
    · rw [Array.getElem?_replicate, if_neg hj] at h; cases h
   exact ⟨by simp, rfl, rfl, fun _ _ => rfl, But.pu hch, fun j hj => absurd hj (hfalse j), ⟨0, Nat.zero_le _, hC 0 _ _ hC0 hch, fun q hq => ⟨fun h => absurd h (hfalse _), fun h => absurd h (Nat.not_lt_zero _)⟩⟩, fun j oj hj hl => absurd hl (hfalse j)⟩
 · rw [Array.toList_replicate, List.count_replicate_self]; exact Nat.le_refl _
theorem op_doneC {g : Nat} {Φ : Value → World → Prop} {C : World → Prop} {i : Nat} {o : Oper} {a' : Act} {w' w'' : World} (ho : ops[i]? = some o) (hw : Region.wanted o (yielded ops a'.tmps) = true)
 (hrun : (execOp a'.eval o).run P w' = .ok .skip w'') (hφ : Φ (if o.dst.isSome then undef else undef) w'') (hC : C w'') (hp : But g w' w'') :
 wpOp P ops Q i (fun a'' w'' => ∃ v, a'' = a'.put o.dst v ∧ (Φ (if o.dst.isSome then v else undef) w'' ∧ C w'') ∧ But g w' w'') a' w' := by
 unfold wpOp
 simp only [ho, hw, if_true]
 refine .inl ?_
 unfold Oper.wp
 rw [hrun]
 exact ⟨undef, rfl, ⟨hφ, hC⟩, hp⟩
end
end Go.Esc
namespace Go.Esc
open Go Go.RowKit Go.Maps
/-- Every value reads as itself. -/
def heldR : Value → Option (DataW Value × List MemPlace) := fun v => some (.held v, [])
/-- How keys are written. -/
structure KeyOf (P : Program) (kt : TypeId) {K : Type} (lit : K → Lit) (val : K → Value) (ok : K → Prop) : Prop where
 keyed : Keyed P kt
 inj : ∀ a b, lit a = lit b → a = b
 isKey : ∀ a, WideAt.IsKeyLit (lit a)
 reads : ∀ a, ok a → keyOf P kt (val a) = some (lit a)
section
variable {P : Program} {kt : TypeId} {K : Type} {lit : K → Lit} {val : K → Value} {ok : K → Prop}
/-- Block b is a map of c entries that holds f. -/
def MapAt (P : Program) (kt : TypeId) {K : Type} (lit : K → Lit) (w : World) (b c : Nat) (f : K → Option Value) : Prop :=
 ∃ D : DataW Value, w.ownsMap P kt heldR b c D ∧ Tidy D ∧ Maps.size D = c ∧ ∀ k, Maps.has D (lit k) = (f k).isSome ∧ ∀ z, D.atKey (lit k) (.held z) = .held ((f k).getD z)
theorem MapAt.lt {w : World} {b c : Nat} {f : K → Option Value} (h : MapAt P kt lit w b c f) : b < w.heap.size := by
 obtain ⟨D, h, _⟩ := h; exact h.lt
theorem MapAt.made (w : World) : MapAt P kt lit (w.alloc (.map #[] 0)) w.heap.size 0 (fun _ => none) :=
 ⟨.map [], World.ownsMap_made w P kt heldR, tidy_empty, rfl, fun _ => ⟨rfl, fun _ => rfl⟩⟩
theorem MapAt.other {w w' : World} {b c : Nat} {f : K → Option Value} (h : MapAt P kt lit w b c f) (hb : w'.heap[b]? = w.heap[b]?) : MapAt P kt lit w' b c f := by
 obtain ⟨D, ⟨es, clock, he, r⟩, r2⟩ := h
 exact ⟨D, ⟨es, clock, hb.trans he, r⟩, r2⟩
theorem MapAt.pu {w w' : World} {b c : Nat} {f : K → Option Value} (h : MapAt P kt lit w b c f) (hp : Pu w w') : MapAt P kt lit w' b c f := h.other (hp.block b h.lt)
theorem MapAt.get (hK : KeyOf P kt lit val ok) {w : World} {b c : Nat} {f : K → Option Value} (h : MapAt P kt lit w b c f) {t e : TypeId} (ht : P.underlying t = some (.map kt e)) {z : Value} (hz : (zeroValue e).run P w = .ok z w) (k : K) (hk : ok k) :
 (Instr.lookup t (.map (some b)) (val k) false).run P w = .ok ((f k).getD z) w := by
 obtain ⟨D, ho, _, _, hf⟩ := h
 obtain ⟨v, ps, hrun, hv⟩ := ho.lookup hK.keyed ht hz (zd := .held z) (zp := []) rfl (hK.reads k hk)
 simp only [heldR, Option.some.injEq, Prod.mk.injEq] at hv
 have := hv.1
 rw [(hf k).2 z] at this
 cases this
 exact hrun
theorem MapAt.get2 (hK : KeyOf P kt lit val ok) {w : World} {b c : Nat} {f : K → Option Value} (h : MapAt P kt lit w b c f) {t e : TypeId} (ht : P.underlying t = some (.map kt e)) {z : Value} (hz : (zeroValue e).run P w = .ok z w) (k : K) (hk : ok k) :
 (Instr.lookup t (.map (some b)) (val k) true).run P w = .ok (.tuple #[(f k).getD z, .bool (f k).isSome]) w := by
 obtain ⟨D, ho, _, _, hf⟩ := h
 obtain ⟨v, ps, hrun, hv⟩ := ho.look_ok hK.keyed ht hz (zd := .held z) (zp := []) rfl (hK.reads k hk)
 simp only [heldR, Option.some.injEq, Prod.mk.injEq] at hv
 have := hv.1
 rw [(hf k).2 z] at this
 cases this
 rw [(hf k).1] at hrun
 exact hrun
theorem MapAt.len {w : World} {b c : Nat} {f : K → Option Value} (h : MapAt P kt lit w b c f) {t e : TypeId} (ht : P.underlying t = some (.map kt e)) (ty : TypeId) : (Builtin.len_ #[t] ty #[.map (some b)]).run P w = .ok (.int .i64 c) w := by
 obtain ⟨D, ho, _, hs, _⟩ := h
 have := ho.len ht ty
 rw [hs] at this
 exact this
variable [DecidableEq K]
def upd (f : K → Option Value) (k : K) (v : Option Value) : K → Option Value := fun x => if x = k then v else f x
theorem MapAt.set (hK : KeyOf P kt lit val ok) {w : World} {b c : Nat} {f : K → Option Value} (h : MapAt P kt lit w b c f) {t e : TypeId} (ht : P.underlying t = some (.map kt e)) (hc : c < maxLen) (k : K) (hk : ok k) (v : Value) :
 ∃ w', (Instr.mapUpdate t (.map (some b)) (val k) v).run P w = .ok () w' ∧ MapAt P kt lit w' b (if (f k).isSome then c else c + 1) (upd f k (some v)) ∧ w.grownBy w' (some b) := by
 obtain ⟨D, ho, hT, hs, hf⟩ := h
 obtain ⟨w', hrun, ho', hg⟩ := ho.update hK.keyed ht hc (hK.reads k hk) (show heldR v = some (.held v, []) from rfl)
 have hsz := size_put (k := lit k) hT (.held v)
 have hT' := hT.put (hK.isKey k) (.held v)
 rw [(hf k).1, hs] at hsz
 obtain ⟨es, clock, he, F, hn, hD⟩ := ho'
 have hes : es.size = (if (f k).isSome then c else c + 1) := by
  rw [← hsz, hD]; simp [Maps.size, length_sorted]
 refine ⟨w', hrun, ⟨D.put (lit k) (.held v), ⟨es, clock, he, F, Nat.le_of_eq hes, hD⟩, hT', hsz, fun x => ?_⟩, hg⟩
 unfold upd
 by_cases hx : x = k
 · subst hx
   rw [if_pos rfl]
   exact ⟨has_put_same hT.isMap (hK.isKey x) _, fun z => atKey_put_same hT.isMap (hK.isKey x) _ _⟩
 · rw [if_neg hx]
   have hne : lit x ≠ lit k := fun e => hx (hK.inj _ _ e)
   exact ⟨by rw [has_put_other hne]; exact (hf x).1, fun z => by rw [atKey_put_other hne]; exact (hf x).2 z⟩
theorem MapAt.del (hK : KeyOf P kt lit val ok) {w : World} {b c : Nat} {f : K → Option Value} (h : MapAt P kt lit w b c f) {t e : TypeId} (ht : P.underlying t = some (.map kt e)) (k : K) (hk : ok k) (ty : TypeId) :
 ∃ w', (Builtin.delete_ #[t, kt] ty #[.map (some b), val k]).run P w = .ok (.tuple #[]) w' ∧ MapAt P kt lit w' b (if (f k).isSome then c - 1 else c) (upd f k none) ∧ w.grownBy w' (some b) := by
 obtain ⟨D, ho, hT, hs, hf⟩ := h
 obtain ⟨w', hrun, ho', hg⟩ := ho.drop hK.keyed ht (hK.reads k hk) ty
 have hsz := size_del (k := lit k) hT
 have hT' := hT.del (lit k)
 rw [(hf k).1, hs] at hsz
 have hsz' : Maps.size (D.del (lit k)) = (if (f k).isSome then c - 1 else c) := by
  split
  · next h => rw [if_pos h] at hsz; omega
  · next h => rw [if_neg h] at hsz; omega
 obtain ⟨es, clock, he, F, hn, hD⟩ := ho'
 have hes : es.size = (if (f k).isSome then c - 1 else c) := by
  rw [← hsz', hD]; simp [Maps.size, length_sorted]
 refine ⟨w', hrun, ⟨D.del (lit k), ⟨es, clock, he, F, Nat.le_of_eq hes, hD⟩, hT', hsz', fun x => ?_⟩, hg.grown⟩
 unfold upd
 by_cases hx : x = k
 · subst hx
   rw [if_pos rfl]
   exact ⟨has_del_same, fun z => atKey_del_same _⟩
 · rw [if_neg hx]
   have hne : lit x ≠ lit k := fun e => hx (hK.inj _ _ e)
   exact ⟨by rw [has_del_other hne]; exact (hf x).1, fun z => by rw [atKey_del_other hne]; exact (hf x).2 z⟩
end
theorem nil_get {P : Program} {kt : TypeId} {K : Type} {lit : K → Lit} {val : K → Value} {ok : K → Prop} (hK : KeyOf P kt lit val ok) {w : World} {t e : TypeId} (ht : P.underlying t = some (.map kt e)) {z : Value} (hz : (zeroValue e).run P w = .ok z w) (k : K) (hk : ok k) (c : Bool) :
 (Instr.lookup t (.map none) (val k) c).run P w = .ok (if c then .tuple #[z, .bool false] else z) w := Maps.look_nil c hK.keyed ht hz (hK.reads k hk)
section
variable {P : Program} {kt : TypeId} {K : Type} {lit : K → Lit} {val : K → Value} {ok : K → Prop}
variable [DecidableEq K] in
theorem wpList_map_set (w : World) {ops : Array Oper} {rest : List Oper} {o : Oper} {a : Act} {Q : Exit → Act → World → Prop}
 (hg : o.guard = none) (m x v : Operand) (t : TypeId) (hop : o.op = Op.mapUpdate t m x v)
 (e : TypeId) (hK : KeyOf P kt lit val ok) (ht : P.underlying t = some (.map kt e)) (b c : Nat) (f : K → Option Value) (hm : a.eval m = .map (some b)) (hown : MapAt P kt lit w b c f) (hc : c < maxLen) (k : K) (hk : ok k) (hx : a.eval x = val k) (u : Value) (hv : a.eval v = u)
 (hQ : ∀ w', MapAt P kt lit w' b (if (f k).isSome then c else c + 1) (upd f k (some u)) → w.grownBy w' (some b) → wpList P ops Q rest (a.put o.dst undef) w') : wpList P ops Q (o :: rest) a w := by
 refine wpList_plain hg fun K' hK' => ?_
 obtain ⟨w', hrun, r1, r2⟩ := hown.set hK ht hc k hk u
 unfold Oper.wp
 simp [execOp, hop, hm, hx, hv, hrun, Result.andThen]
 exact hK' _ _ (hQ w' r1 r2)
variable [DecidableEq K] in
end
/-- Keys that are numbers. -/
def litI (n : Nat) : Lit := .int .i64 n
def valI (n : Nat) : Value := .int .i64 n
theorem keyI {P : Program} {kt : TypeId} (h : P.underlying kt = some (.int .i64)) : KeyOf P kt litI valI (fun n => n ≤ 1000000) :=
 ⟨int_keyed h, fun a b e => by simp [litI] at e; omega, fun _ => trivial, fun a ha => keyOf_int_mk h (by simp [Lit.wf, IntKind.min, IntKind.max, IntKind.signed, IntKind.bits]; omega)⟩
end Go.Esc
set_option linter.unusedSimpArgs false
set_option linter.unusedVariables false
namespace Go.Esc
open Go Go.RowKit
theorem Row.ne {w : World} {g h : Nat} {e e' : TypeId} {xs ys : List Value} (hg : Row w g e xs) (hh : Row w h e' ys) (hne : e ≠ e') : g ≠ h := by
 rintro rfl
 obtain ⟨c, fr, h1, _⟩ := hg
 obtain ⟨c', fr', h2, _⟩ := hh
 rw [h1] at h2
 cases h2
 exact hne rfl
theorem MapAt.ne {P : Program} {kt : TypeId} {K : Type} {lit : K → Lit} {w : World} {b c g : Nat} {f : K → Option Value} {e : TypeId} {xs : List Value} (h : MapAt P kt lit w b c f) (hr : Row w g e xs) : b ≠ g := by
 rintro rfl
 obtain ⟨D, ⟨es, clock, h1, _⟩, _⟩ := h
 obtain ⟨c', fr', h2, _⟩ := hr
 rw [h1] at h2
 cases h2
theorem MapAt.but {P : Program} {kt : TypeId} {K : Type} {lit : K → Lit} {w w' : World} {b c g : Nat} {f : K → Option Value} (h : MapAt P kt lit w b c f) (hp : But g w w') (hne : b ≠ g) : MapAt P kt lit w' b c f := h.other (hp.block b h.lt hne)
/-- A new block of one cell. -/
def IsPtrN (e : TypeId) (B : Nat) : Value → World → Prop := fun v w => ∃ g, v = .pointer (some ⟨g, 0, none⟩) ∧ (∃ x, Row w g e [x]) ∧ B ≤ g
instance (e : TypeId) (B : Nat) : Stable (IsPtrN e B) := ⟨fun _ _ _ h hp => by obtain ⟨g, hv, ⟨x, hr⟩, hb⟩ := h; exact ⟨g, hv, ⟨x, hr.pu hp⟩, hb⟩⟩
end Go.Esc
namespace Go.Proofs.YtoakccknimoogaaGreat
open Go.RowKit Go.Esc
set_option maxRecDepth 100000 in
set_option maxHeartbeats 1600000 in
theorem turnSet (pv ev xv tb x : Nat) (key : Bs) (mv : Value) (n : Nat) (w : World) (hk : key.length = 32) (hn : n ≤ 100)
 (h1 : Row w pv 58 [.pointer (some ⟨tb, 0, none⟩)]) (h2 : Row w ev 3 [.int .i64 (n : Int)]) (h3 : Row w xv 109 [.pointer (some ⟨x, 0, none⟩)])
 (h4 : Row w tb 61 [S key, mv]) (h5 : Row w x 120 [.int .u32 0, .int .i32 1, .int .u32 0, S []]) :
 Calls Tryz.prog 73 #[.pointer (some ⟨pv, 0, none⟩), .pointer (some ⟨ev, 0, none⟩), .pointer (some ⟨xv, 0, none⟩)] w fun e w' => e = .returned (.tuple #[]) ∧ Row w' x 120 [.int .u32 0, .int .i32 1, .int .u32 0, S (turnL key n)] ∧ But x w w' := by
 have hA := fun w => ratchetAt key (n : Int) (by omega) (by omega) (by omega) w
 rw [show ((n : Int)).toNat = n from rfl] at hA
 have HA := Lib.hid hA
 have cA : ∀ args w, (callFunc 74 args).run Tryz.prog w = .ok (.enter 74 args) w := fun args w => run_callFunc_body Tryz.func74 (by kernel_rfl) (by kernel_rfl) args w
 clear hA
 go_enter Tryz.func73, Tryz.ntmps73
 have n1 := Row.ne h1 h5 (by decide)
 have n2 := Row.ne h2 h5 (by decide)
 have n3 := Row.ne h3 h5 (by decide)
 have n4 := Row.ne h4 h5 (by decide)
 apply region_chain (g := x) (chain := [12]) (C := (fun s w' => Row w' x 120 [.int .u32 0, .int .i32 1, .int .u32 0, S (if s = 0 then [] else turnL key n)])) (Φs := (Is _ :: Is _ :: Is _ :: Is _ :: Is _ :: Is _ :: Is _ :: Is _ :: Is _ :: Is _ :: Is _ :: Is _ :: Is _ :: [])) (hm := by kernel_rfl) (hE := by kernel_rfl) (hD := by kernel_rfl) (hup := by kernel_rfl) (hch := by kernel_rfl) (hsize := by kernel_rfl)
 case hC =>
  intro s a b h hp
  exact Row.pu h hp
 case hC0 =>
  exact h5
 case hop =>
  refine ⟨?_, ?_, ?_, ?_, ?_, ?_, ?_, ?_, ?_, ?_, ?_, ?_, ?_, trivial⟩
  · intro a' w' s hs hp hC hlo hhi he
    rw [if_neg (by decide)]
    clear hlo hhi
    have e2 := hs 2 (by kernel_rfl)
    try simp [Is, Region.binds] at he
    have hc := (hp.row h3 n3).cell 0 (by simp); simp at hc; exact op_val rfl (wanted_none rfl) (by first | (go_simp; done) | (go_simp; rfl)) rfl (Pu.refl _)
  · intro a' w' s hs hp hC hlo hhi he
    rw [if_neg (by decide)]
    clear hlo hhi
    have e0 := hs 0 (by kernel_rfl)
    try simp [Is, Region.binds] at he
    have hc := (hp.row h1 n1).cell 0 (by simp); simp at hc; exact op_val rfl (wanted_none rfl) (by first | (go_simp; done) | (go_simp; rfl)) rfl (Pu.refl _)
  · intro a' w' s hs hp hC hlo hhi he
    rw [if_neg (by decide)]
    clear hlo hhi
    try simp [Is, Region.binds] at he
    exact op_v
  · intro a' w' s hs hp hC hlo hhi he
    rw [if_neg (by decide)]
    clear hlo hhi
    try simp [Is, Region.binds] at he
    exact op_v
  · intro a' w' s hs hp hC hlo hhi he
    rw [if_neg (by decide)]
    clear hlo hhi
    try simp [Is, Region.binds] at he
    have hc := (hp.row h4 n4).cell 0 (by simp); simp at hc; exact op_val rfl (wanted_none rfl) (by first | (go_simp; done) | (go_simp; rfl)) rfl (Pu.refl _)
  · intro a' w' s hs hp hC hlo hhi he
    rw [if_neg (by decide)]
    clear hlo hhi
    have e1 := hs 1 (by kernel_rfl)
    try simp [Is, Region.binds] at he
    have hc := (hp.row h2 n2).cell 0 (by simp); simp at hc; exact op_val rfl (wanted_none rfl) (by first | (go_simp; done) | (go_simp; rfl)) rfl (Pu.refl _)
  · intro a' w' s hs hp hC hlo hhi he
    rw [if_neg (by decide)]
    clear hlo hhi
    try simp [Is, Region.binds] at he
    exact op_callP (HA.out _) rfl (wanted_none rfl) (by first | (go_simp; done) | (go_simp; rfl)) (fun _ => rfl)
  · intro a' w' s hs hp hC hlo hhi he
    rw [if_neg (by decide)]
    clear hlo hhi
    try simp [Is, Region.binds] at he
    exact op_v
  · intro a' w' s hs hp hC hlo hhi he
    rw [if_neg (by decide)]
    clear hlo hhi
    try simp [Is, Region.binds] at he
    exact op_v
  · intro a' w' s hs hp hC hlo hhi he
    rw [if_neg (by decide)]
    clear hlo hhi
    try simp [Is, Region.binds] at he
    exact op_v
  · intro a' w' s hs hp hC hlo hhi he
    rw [if_neg (by decide)]
    clear hlo hhi
    try simp [Is, Region.binds] at he
    exact op_v
  · intro a' w' s hs hp hC hlo hhi he
    rw [if_neg (by decide)]
    clear hlo hhi
    try simp [Is, Region.binds] at he
    exact op_v
  · intro a' w' s hs hp hC hlo hhi he
    rw [if_pos (by decide)]; intro hsc; clear hsc
    have hs0 : s = 0 := Nat.le_antisymm (Nat.le_trans hhi (Nat.le_of_eq (by kernel_rfl))) (Nat.le_trans (Nat.le_of_eq (by kernel_rfl)) hlo)
    subst hs0
    clear hlo hhi
    try simp [Is, Region.binds] at he
    simp at hC; obtain ⟨u3, hc⟩ : ∃ u, w'.cell? ⟨x, 3, none⟩ = some u := ⟨_, hC.cell 3 (by simp)⟩; have hf := hC.frozen 3 (by simp); have h6 := hC.set 3 (S (turnL key n)); exact op_doneC rfl (wanted_none rfl) (by first | (go_simp; done) | (go_simp; rfl)) rfl (by simpa using h6) (But.set _ _ _)
 case hend =>
  intro a' w' hdef hsz hs hp hC hall
  obtain ⟨r0, r1, r2, r3, r4, r5, r6, r7, r8, r9, r10, r11, r12, -⟩ := hall
  have hA := agree_done (agree_step (agree_step (agree_step (agree_step (agree_step (agree_step (agree_step (agree_step (agree_step (agree_step (agree_step (agree_step (agree_init [4, 5, 6, 7, 8, 9, 10, 3, 11, 12, 13, 14] hsz hs (by kernel_rfl)) r0) r1) r2) r3) r4) r5) r6) r7) r8) r9) r10) r11)
  have ha := act_of hA hdef
  rw [ha]
  clear ha hA hs hsz hdef r0 r1 r2 r3 r4 r5 r6 r7 r8 r9 r10 r11 r12 
  (try simp only [List.setIfInBounds_toArray])
  (try dsimp only [List.set_cons_zero, List.set_cons_succ])
  (try simp only [Exit.then])
  simp at hC
  go_end0
  exact ⟨rfl, hC, hp⟩
theorem Pu_drew' (w : World) : Pu w { w with drawn := w.drawn + 1 } := ⟨rfl, rfl, rfl, Nat.le_refl _, fun _ _ => rfl⟩
/-- The keys of epochs: those that are there are made. -/
def Turns (G : Nat → Prop) (w : World) (tb mb : Nat) (key : Bs) (m : Nat) : Prop := ∃ (f : Nat → Option Value) (c : Nat), Row w tb 61 [S key, .map (some mb)] ∧ MapAt Tryz.prog 3 litI w mb c f ∧ c ≤ m ∧
 ∀ e v, f e = some v → ∃ x, v = .pointer (some ⟨x, 0, none⟩) ∧ G x ∧ Row w x 120 [.int .u32 1, .int .i32 0, .int .u32 0, S (turnL key e)]
/-- The blocks of G, and those that are new. -/
def Gw (G : Nat → Prop) (w w' : World) : Nat → Prop := fun g => G g ∨ (w.heap.size ≤ g ∧ g < w'.heap.size)
theorem zeroTurn (w : World) : (zeroValue 109).run Tryz.prog w = .ok (.pointer none) w := by kernel_rfl
theorem Turns.pu {G : Nat → Prop} {w w' : World} {tb mb : Nat} {key : Bs} {m : Nat} (h : Turns G w tb mb key m) (hp : Pu w w') : Turns G w' tb mb key m := by
 obtain ⟨f, c, h1, h2, h3, h4⟩ := h
 refine ⟨f, c, h1.pu hp, h2.pu hp, h3, fun e v he => ?_⟩
 obtain ⟨x, hx, hg, hr⟩ := h4 e v he
 exact ⟨x, hx, hg, hr.pu hp⟩
set_option maxRecDepth 100000 in
set_option maxHeartbeats 1600000 in
theorem turnsAt (G : Nat → Prop) (tb mb : Nat) (key : Bs) (m s : Nat) (w : World) (h : Turns G w tb mb key m) (hk : key.length = 32) (hs : s < 800) (hm : m ≤ 100000) :
 Calls Tryz.prog 22 #[.pointer (some ⟨tb, 0, none⟩), .int .i64 (s : Int)] w fun e w' => e = .returned (S (turnL key (s / 8))) ∧ Turns (Gw G w w') w' tb mb key (m+1) ∧ But mb w w' := by
 obtain ⟨f, c, h1, h2, h3, h4⟩ := h
 have hE := fun w => epoch (s : Int) (by omega) w
 rw [if_neg (by omega), show (s : Int) / 8 = ((s / 8 : Nat) : Int) by omega] at hE
 obtain ⟨e, he⟩ : ∃ e, e = s / 8 := ⟨_, rfl⟩
 rw [← he] at hE ⊢
 have he1 : e ≤ 100 := by omega
 have HE := Lib.hid hE
 clear hE he hs
 have hkI := keyI (P := Tryz.prog) (kt := 3) Tryz.underlying3
 have hS2 : ∀ w2 : World, Pu w w2 → MapAt Tryz.prog 3 litI w2 mb c f := fun w2 hp => h2.pu hp
 have hlk : ∀ w2 : World, Pu w w2 → (Instr.lookup 59 (.map (some mb)) (.int .i64 (e : Int)) false).run Tryz.prog w2 = .ok ((f e).getD (.pointer none)) w2 := fun w2 hp => (h2.pu hp).get hkI Tryz.underlying59 (zeroTurn w2) e (by omega)
 have hp1 : Pu w ((w.alloc (.cells #[.pointer (some ⟨tb, 0, none⟩)] 58)).alloc (.cells #[.int .i64 (e : Int)] 3)) := ((Pu.refl w).alloc _).trans ((Pu.refl _).alloc _)
 have hpv : Row ((w.alloc (.cells #[.pointer (some ⟨tb, 0, none⟩)] 58)).alloc (.cells #[.int .i64 (e : Int)] 3)) w.heap.size 58 [.pointer (some ⟨tb, 0, none⟩)] := (Row.new _ _ _).alloc _
 have hev : Row ((w.alloc (.cells #[.pointer (some ⟨tb, 0, none⟩)] 58)).alloc (.cells #[.int .i64 (e : Int)] 3)) (w.heap.size + 1) 3 [.int .i64 (e : Int)] := by
  have := Row.new (w.alloc (.cells #[.pointer (some ⟨tb, 0, none⟩)] 58)) #[.int .i64 (e : Int)] 3
  simpa using this
 have H2 := Lib.hid h2
 have HLK := Lib.hid hlk
 have H4 := Lib.hid h4
 clear hlk h4 hS2
 have hc1000 : c < maxLen := by unfold maxLen; omega
 cases hfe : f e with
 | some v =>
   obtain ⟨x, rfl, -, hx⟩ := H4.out e v hfe
   go_enter Tryz.func22, Tryz.ntmps22
   go_wp2_with (go_at_call 71; refine (HE.out _).mono ?_; rintro e1 w1 ⟨rfl, rfl⟩)
   obtain ⟨w1, hw1⟩ : ∃ w1, w1 = (w.alloc (.cells #[.pointer (some ⟨tb, 0, none⟩)] 58)).alloc (.cells #[.int .i64 (e : Int)] 3) := ⟨_, rfl⟩
   rw [← hw1] at hp1 hpv hev ⊢
   clear hw1
   have ht1 := h1.pu hp1
   apply region_last (n := 7) (hn := by kernel_rfl) (hlast := rfl) (hU := by kernel_rfl) (Φs := (Is _ :: Is _ :: Is _ :: Is _ :: Is _ :: Is (.pointer (some ⟨x, 0, none⟩)) :: IsPtrN 109 w1.heap.size :: [])) (hm := by kernel_rfl) (hE := by kernel_rfl) (hD := by kernel_rfl) (hsize := by kernel_rfl)
   case hop =>
    refine ⟨?_, ?_, ?_, ?_, ?_, ?_, ?_, trivial⟩
    · intro a' w' hs hp he
      have e2 := hs 2 (by kernel_rfl)
      try simp [Is, Region.binds] at he
      have hc := (hpv.pu hp).cell 0 (by simp); simp at hc; exact op_val rfl (wanted_none rfl) (by first | (go_simp; done) | (go_simp; rfl)) rfl (Pu.refl _)
    · intro a' w' hs hp he
      try simp [Is, Region.binds] at he
      exact op_v
    · intro a' w' hs hp he
      try simp [Is, Region.binds] at he
      exact op_v
    · intro a' w' hs hp he
      try simp [Is, Region.binds] at he
      have hc := (ht1.pu hp).cell 1 (by simp); simp at hc; exact op_val rfl (wanted_none rfl) (by first | (go_simp; done) | (go_simp; rfl)) rfl (Pu.refl _)
    · intro a' w' hs hp he
      have e5 := hs 5 (by kernel_rfl)
      try simp [Is, Region.binds] at he
      have hc := (hev.pu hp).cell 0 (by simp); simp at hc; exact op_val rfl (wanted_none rfl) (by first | (go_simp; done) | (go_simp; rfl)) rfl (Pu.refl _)
    · intro a' w' hs hp he
      try simp [Is, Region.binds] at he
      have hlk := HLK.out _ (hp1.trans hp); rw [hfe, Option.getD_some] at hlk; exact op_val rfl (wanted_none rfl) (by first | (go_simp; done) | (go_simp; rfl)) rfl (Pu.refl _)
    · intro a' w' hs hp he
      try simp [Is, Region.binds] at he
      refine op_val rfl (wanted_none rfl) (by go_simp; exact ⟨rfl, rfl⟩) ?_ ((Pu.refl _).alloc _); exact ⟨_, rfl, ⟨_, Row.newAt _ _ _ _ rfl rfl⟩, hp.size⟩
   case hend =>
    intro a' w' hdef hsz hs hp hall
    obtain ⟨r0, r1, r2, r3, r4, r5, r6, -⟩ := hall
    obtain ⟨g6, rv6, row6⟩ := r6
    have hA := agree_done (agree_step (agree_step (agree_step (agree_step (agree_step (agree_step (agree_step (agree_init [9, 10, 11, 12, 13, 14, 6] hsz hs (by kernel_rfl)) r0) r1) r2) r3) r4) r5) rv6)
    have ha := act_of hA hdef
    rw [ha]
    clear ha hA hs hsz hdef r0 r1 r2 r3 r4 r5 rv6
    (try simp only [List.setIfInBounds_toArray])
    (try dsimp only [List.set_cons_zero, List.set_cons_succ])
    (try simp only [Exit.then])
    obtain ⟨⟨x0, hr0⟩, hg6⟩ := row6; have hc := hr0.cell 0 (by simp); have hf := hr0.frozen 0 (by simp); simp at hc; have hr6 := hr0.set 0 (.pointer (some ⟨x, 0, none⟩)); simp at hr6
    refine op_done rfl (wanted_none rfl) (by first | (go_simp; done) | (go_simp; rfl)) ?_
    (try simp only [Exit.inBlock, Exit.then])
    obtain ⟨w2, hw2⟩ : ∃ w2, w2 = w'.setCell ⟨g6, 0, none⟩ (.pointer (some ⟨x, 0, none⟩)) := ⟨_, rfl⟩
    have hp2 : Pu w w2 := by rw [hw2]; exact (hp1.trans hp).setCell (Nat.le_trans hp1.size hg6) _
    rw [← hw2] at hr6 ⊢
    have c6 := hr6.cell 0 (by simp)
    have hx2 := hx.pu hp2
    have d0 := hx2.cell 0 (by simp)
    have d3 := hx2.cell 3 (by simp)
    simp at c6 d0 d3
    clear hw2 hp hc hf hr0 hpv hev ht1 hx
    go_wp2_with (go_at_call 72; refine (once_again x 0 _ w2 d0).mono ?_; rintro e2 w3 ⟨rfl, rfl⟩)
    go_ret
    refine ⟨rfl, ⟨f, c, h1.pu hp2, H2.out.pu hp2, by omega, fun e' v' he' => ?_⟩, But.pu hp2⟩
    obtain ⟨y, hy, hgy, hry⟩ := H4.out e' v' he'
    exact ⟨y, hy, .inl hgy, hry.pu hp2⟩
 | none =>
   go_enter Tryz.func22, Tryz.ntmps22
   go_wp2_with (go_at_call 71; refine (HE.out _).mono ?_; rintro e1 w1 ⟨rfl, rfl⟩)
   obtain ⟨w1, hw1⟩ : ∃ w1, w1 = (w.alloc (.cells #[.pointer (some ⟨tb, 0, none⟩)] 58)).alloc (.cells #[.int .i64 (e : Int)] 3) := ⟨_, rfl⟩
   rw [← hw1] at hp1 hpv hev ⊢
   clear hw1
   have ht1 := h1.pu hp1
   apply region_last (n := 7) (hn := by kernel_rfl) (hlast := rfl) (hU := by kernel_rfl) (Φs := (Is _ :: Is _ :: Is _ :: Is _ :: Is _ :: Is (.pointer none) :: IsPtrN 109 w1.heap.size :: [])) (hm := by kernel_rfl) (hE := by kernel_rfl) (hD := by kernel_rfl) (hsize := by kernel_rfl)
   case hop =>
    refine ⟨?_, ?_, ?_, ?_, ?_, ?_, ?_, trivial⟩
    · intro a' w' hs hp he
      have e2 := hs 2 (by kernel_rfl)
      try simp [Is, Region.binds] at he
      have hc := (hpv.pu hp).cell 0 (by simp); simp at hc; exact op_val rfl (wanted_none rfl) (by first | (go_simp; done) | (go_simp; rfl)) rfl (Pu.refl _)
    · intro a' w' hs hp he
      try simp [Is, Region.binds] at he
      exact op_v
    · intro a' w' hs hp he
      try simp [Is, Region.binds] at he
      exact op_v
    · intro a' w' hs hp he
      try simp [Is, Region.binds] at he
      have hc := (ht1.pu hp).cell 1 (by simp); simp at hc; exact op_val rfl (wanted_none rfl) (by first | (go_simp; done) | (go_simp; rfl)) rfl (Pu.refl _)
    · intro a' w' hs hp he
      have e5 := hs 5 (by kernel_rfl)
      try simp [Is, Region.binds] at he
      have hc := (hev.pu hp).cell 0 (by simp); simp at hc; exact op_val rfl (wanted_none rfl) (by first | (go_simp; done) | (go_simp; rfl)) rfl (Pu.refl _)
    · intro a' w' hs hp he
      try simp [Is, Region.binds] at he
      have hlk := HLK.out _ (hp1.trans hp); rw [hfe, Option.getD_none] at hlk; exact op_val rfl (wanted_none rfl) (by first | (go_simp; done) | (go_simp; rfl)) rfl (Pu.refl _)
    · intro a' w' hs hp he
      try simp [Is, Region.binds] at he
      refine op_val rfl (wanted_none rfl) (by go_simp; exact ⟨rfl, rfl⟩) ?_ ((Pu.refl _).alloc _); exact ⟨_, rfl, ⟨_, Row.newAt _ _ _ _ rfl rfl⟩, hp.size⟩
   case hend =>
    intro a' w' hdef hsz hs hp hall
    obtain ⟨r0, r1, r2, r3, r4, r5, r6, -⟩ := hall
    obtain ⟨g6, rv6, row6⟩ := r6
    have hA := agree_done (agree_step (agree_step (agree_step (agree_step (agree_step (agree_step (agree_step (agree_init [9, 10, 11, 12, 13, 14, 6] hsz hs (by kernel_rfl)) r0) r1) r2) r3) r4) r5) rv6)
    have ha := act_of hA hdef
    rw [ha]
    clear ha hA hs hsz hdef r0 r1 r2 r3 r4 r5 rv6
    (try simp only [List.setIfInBounds_toArray])
    (try dsimp only [List.set_cons_zero, List.set_cons_succ])
    (try simp only [Exit.then])
    obtain ⟨⟨x0, hr0⟩, hg6⟩ := row6; have hc := hr0.cell 0 (by simp); have hf := hr0.frozen 0 (by simp); simp at hc; have hr6 := hr0.set 0 (.pointer none); simp at hr6
    refine op_done rfl (wanted_none rfl) (by first | (go_simp; done) | (go_simp; rfl)) ?_
    (try simp only [Exit.inBlock, Exit.then])
    obtain ⟨w2, hw2⟩ : ∃ w2, w2 = w'.setCell ⟨g6, 0, none⟩ (.pointer none) := ⟨_, rfl⟩
    have hp12 : Pu w1 w2 := by rw [hw2]; exact hp.setCell hg6 _
    have hp2 : Pu w w2 := hp1.trans hp12
    have hpv2 := hpv.pu hp12
    have hev2 := hev.pu hp12
    have hg6' : w.heap.size ≤ g6 := Nat.le_trans hp1.size hg6
    rw [← hw2] at hr6 ⊢
    have c6 := hr6.cell 0 (by simp)
    have f6 := (hr6.alloc (.cells #[.int .u32 0, .int .i32 0, .int .u32 0, .string ⟨#[]⟩] 120)).frozen 0 (by simp)
    have c66 := (hr6.alloc (.cells #[.int .u32 0, .int .i32 0, .int .u32 0, .string ⟨#[]⟩] 120)).cell 0 (by simp)
    simp at c6 c66
    clear hw2 hp hc hf hr0 hpv hev ht1 hp12
    go_wp2_with fail
    obtain ⟨x, hxx⟩ : ∃ x, x = w2.heap.size := ⟨_, rfl⟩
    have hrx : Row (w2.alloc (.cells #[.int .u32 0, .int .i32 0, .int .u32 0, .string ⟨#[]⟩] 120)) x 120 [.int .u32 0, .int .i32 0, .int .u32 0, S []] := by rw [hxx]; exact Row.new _ _ _
    have hr6' := (hr6.alloc (.cells #[.int .u32 0, .int .i32 0, .int .u32 0, .string ⟨#[]⟩] 120)).set 0 (.pointer (some ⟨x, 0, none⟩))
    have hrx' := hrx.setOther ⟨g6, 0, none⟩ (.pointer (some ⟨x, 0, none⟩)) (by have := hr6.lt; rw [hxx]; simp; omega)
    rw [← hxx]
    obtain ⟨w3, hw3⟩ : ∃ w3, w3 = (w2.alloc (.cells #[.int .u32 0, .int .i32 0, .int .u32 0, .string ⟨#[]⟩] 120)).setCell ⟨g6, 0, none⟩ (.pointer (some ⟨x, 0, none⟩)) := ⟨_, rfl⟩
    rw [← hw3] at hr6' hrx' ⊢
    have hx2 : w.heap.size ≤ x := by rw [hxx]; exact hp2.size
    have hp3 : Pu w w3 := by rw [hw3]; exact (hp2.trans ((Pu.refl w2).alloc _)).setCell hg6' _
    have hg23 : w2.grownBy w3 (some g6) := by
     rw [hw3]
     exact ⟨rfl, rfl, rfl, by simp, fun k hk hne => (Below.heap_setCell _ _ _ _ (fun e => hne (by rw [e]))).trans (Below.heap_alloc _ _ _ hk)⟩
    have hpv3 := hpv2.grown hg23 (by have := Row.ne hpv2 hr6 (by decide); simp; omega)
    have hev3 := hev2.grown hg23 (by have := Row.ne hev2 hr6 (by decide); simp; omega)
    simp at hr6'
    clear c6 f6 c66 hr6 hpv2 hev2 hrx hw3 hg23 hg6 hp1 x0
    have ht3 := h1.pu hp3
    have hm3 := H2.out.pu hp3
    clear hp2 hxx
    apply region_last (n := 6) (hn := by kernel_rfl) (hlast := rfl) (hU := by kernel_rfl) (Φs := (Is _ :: Is _ :: Is _ :: Is _ :: Is _ :: Is _ :: [])) (hm := by kernel_rfl) (hE := by kernel_rfl) (hD := by kernel_rfl) (hsize := by kernel_rfl)
    case hop =>
     refine ⟨?_, ?_, ?_, ?_, ?_, ?_, trivial⟩
     · intro a' w' hs hp he
       have e2 := hs 2 (by kernel_rfl)
       try simp [Is, Region.binds] at he
       have hc := (hpv3.pu hp).cell 0 (by simp); simp at hc; exact op_val rfl (wanted_none rfl) (by first | (go_simp; done) | (go_simp; rfl)) rfl (Pu.refl _)
     · intro a' w' hs hp he
       try simp [Is, Region.binds] at he
       exact op_v
     · intro a' w' hs hp he
       try simp [Is, Region.binds] at he
       exact op_v
     · intro a' w' hs hp he
       try simp [Is, Region.binds] at he
       have hc := (ht3.pu hp).cell 1 (by simp); simp at hc; exact op_val rfl (wanted_none rfl) (by first | (go_simp; done) | (go_simp; rfl)) rfl (Pu.refl _)
     · intro a' w' hs hp he
       have e5 := hs 5 (by kernel_rfl)
       try simp [Is, Region.binds] at he
       have hc := (hev3.pu hp).cell 0 (by simp); simp at hc; exact op_val rfl (wanted_none rfl) (by first | (go_simp; done) | (go_simp; rfl)) rfl (Pu.refl _)
     · intro a' w' hs hp he
       have e6 := hs 6 (by kernel_rfl)
       try simp [Is, Region.binds] at he
       have hc := (hr6'.pu hp).cell 0 (by simp); simp at hc; exact op_val rfl (wanted_none rfl) (by first | (go_simp; done) | (go_simp; rfl)) rfl (Pu.refl _)
    case hend =>
     intro a' w' hdef hsz hs hp hall
     obtain ⟨r0, r1, r2, r3, r4, r5, -⟩ := hall
     have hA := agree_done (agree_step (agree_step (agree_step (agree_step (agree_step (agree_step (agree_init [19, 20, 21, 22, 23, 24] hsz hs (by kernel_rfl)) r0) r1) r2) r3) r4) r5)
     have ha := act_of hA hdef
     rw [ha]
     clear ha hA hs hsz hdef r0 r1 r2 r3 r4 r5 
     (try simp only [List.setIfInBounds_toArray])
     (try dsimp only [List.set_cons_zero, List.set_cons_succ])
     (try simp only [Exit.then])
     obtain ⟨w5, hrun, hm5, hg5⟩ := (hm3.pu hp).set hkI Tryz.underlying59 hc1000 e (by omega) (.pointer (some ⟨x, 0, none⟩)); rw [hfe] at hm5; simp at hm5; change (Instr.mapUpdate 59 (.map (some mb)) (.int .i64 (e : Int)) (.pointer (some ⟨x, 0, none⟩))).run Tryz.prog w' = .ok () w5 at hrun
     refine op_done rfl (wanted_none rfl) (by first | (go_simp; done) | (go_simp; rfl)) ?_
     (try simp only [Exit.inBlock, Exit.then])
     have hp4 : Pu w w' := hp3.trans hp
     have nx : mb ≠ x := (hm3.pu hp).ne (hrx'.pu hp)
     have hb5 : But mb w w5 := (But.pu hp4).trans ⟨hg5.os, hg5.tape, hg5.output, hg5.size, fun k hk hne => hg5.block k hk (by simpa using hne)⟩
     have hpv5 := (hpv3.pu hp).grown hg5 (by have := (hm3.pu hp).ne (hpv3.pu hp); simp; omega)
     have hev5 := (hev3.pu hp).grown hg5 (by have := (hm3.pu hp).ne (hev3.pu hp); simp; omega)
     have hr65 := (hr6'.pu hp).grown hg5 (by have := (hm3.pu hp).ne (hr6'.pu hp); simp; omega)
     have hrx5 := (hrx'.pu hp).grown hg5 (by simp; omega)
     have ht5 := (ht3.pu hp).grown hg5 (by have := (hm3.pu hp).ne (ht3.pu hp); simp; omega)
     clear hpv3 hev3 hr6' hrx' ht3 hm3 hp hrun hg5 hp3 hp4
     have n1 := Row.ne hpv5 hrx5 (by decide)
     have n2 := Row.ne hev5 hrx5 (by decide)
     have n3 := Row.ne hr65 hrx5 (by decide)
     have n4 := Row.ne ht5 hrx5 (by decide)
     have hset := turnSet w.heap.size (w.heap.size + 1) g6 tb x key (.map (some mb)) e (w5.setCell ⟨x, 1, none⟩ (.int .i32 1)) hk he1 (hpv5.setOther _ _ n1) (hev5.setOther _ _ n2) (hr65.setOther _ _ n3) (ht5.setOther _ _ n4) (hrx5.set 1 _)
     have hrun : ∀ (w1 : World), (callFunc 73 #[.pointer (some ⟨w.heap.size, 0, none⟩), .pointer (some ⟨w.heap.size + 1, 0, none⟩), .pointer (some ⟨g6, 0, none⟩)]).run Tryz.prog w1 = .ok (.enter 73 #[.pointer (some ⟨w.heap.size, 0, none⟩), .pointer (some ⟨w.heap.size + 1, 0, none⟩), .pointer (some ⟨g6, 0, none⟩)]) w1 := fun w1 => run_callFunc_body Tryz.func73 (by kernel_rfl) (by kernel_rfl) _ w1
     have hdo := once_first x 0 73 #[.pointer (some ⟨w.heap.size, 0, none⟩), .pointer (some ⟨w.heap.size + 1, 0, none⟩), .pointer (some ⟨g6, 0, none⟩)] w5 (fun w6 => Row w6 x 120 [.int .u32 0, .int .i32 1, .int .u32 0, S (turnL key e)] ∧ But x w5 w6) hrun (hrx5.cell 0 (by simp)) (hrx5.cell 1 (by simp)) (hrx5.frozen 1 (by simp)) (hset.mono (by
      rintro e2 w6 ⟨rfl, hr, hb⟩
      exact ⟨rfl, ⟨hr, (But.set _ _ _).trans hb⟩, hr.cell 0 (by simp), hr.frozen 0 (by simp), hr.cell 1 (by simp), hr.frozen 1 (by simp)⟩))
     have hd2 := hdo.mono (R' := fun e2 w7 => e2 = .returned (.tuple #[]) ∧ Row w7 x 120 [.int .u32 1, .int .i32 0, .int .u32 0, S (turnL key e)] ∧ But x w5 w7) (by
      rintro e2 w7 ⟨rfl, w6, ⟨hr, hb⟩, rfl⟩
      exact ⟨rfl, (hr.drew.set 0 _).set 1 _, ((hb.trans (But.pu (Pu_drew' w6))).trans (But.set _ _ _)).trans (But.set _ _ _)⟩)
     have HD := Lib.hid hd2
     have c65 := hr65.cell 0 (by simp)
     simp at c65
     have HR65 := Lib.hid hr65
     clear hd2 hdo hset hpv5 hev5 hr65 hrun
     go_wp2_with (go_at_call 72; refine HD.out.mono ?_; rintro e2 w7 ⟨rfl, hr7, hb7⟩; have c67 := (hb7.row HR65.out n3).cell 0 (by simp); have c73 := hr7.cell 3 (by simp); simp at c67 c73)
     go_ret
     have hbw : But mb w w7 := ⟨hb7.os.trans hb5.os, hb7.tape.trans hb5.tape, hb7.output.trans hb5.output, Nat.le_trans hb5.size hb7.size, fun k hk hne => (hb7.block k (Nat.lt_of_lt_of_le hk hb5.size) (by omega)).trans (hb5.block k hk hne)⟩
     refine ⟨rfl, ⟨_, c + 1, hbw.row h1 (by have := h2.ne h1; omega), hm5.but hb7 nx, by omega, fun e' v' he' => ?_⟩, hbw⟩
     unfold upd at he'
     by_cases hee : e' = e
     · rw [if_pos hee] at he'
       cases he'
       rw [hee]
       exact ⟨x, rfl, .inr ⟨hx2, hr7.lt⟩, hr7⟩
     · rw [if_neg hee] at he'
       obtain ⟨y, hy, hgy, hry⟩ := H4.out e' v' he'
       exact ⟨y, hy, .inl hgy, hbw.row hry (by have := h2.ne hry; omega)⟩
end Go.Proofs.YtoakccknimoogaaGreat
namespace Go.Proofs.YtoakccknimoogaaGreat
open Go.RowKit Go.Esc
/-- w' is w but for new blocks and those of G. -/
structure Cg (G : Nat → Prop) (w w' : World) : Prop where
 os : w'.os = w.os
 tape : w'.tape = w.tape
 output : w'.output = w.output
 size : w.heap.size ≤ w'.heap.size
 block : ∀ k, k < w.heap.size → ¬ G k → w'.heap[k]? = w.heap[k]?
theorem Cg.refl (G : Nat → Prop) (w : World) : Cg G w w := ⟨rfl, rfl, rfl, Nat.le_refl _, fun _ _ _ => rfl⟩
theorem Cg.pu {G : Nat → Prop} {a b c : World} (h : Cg G a b) (hp : Pu b c) : Cg G a c := ⟨hp.os.trans h.os, hp.tape.trans h.tape, hp.output.trans h.output, Nat.le_trans h.size hp.size, fun i hi hg => (hp.block i (Nat.lt_of_lt_of_le hi h.size)).trans (h.block i hi hg)⟩
theorem Cg.grown {G : Nat → Prop} {a b c : World} {g : Nat} (h : Cg G a b) (hp : b.grownBy c (some g)) (hg : G g) : Cg G a c := ⟨hp.os.trans h.os, hp.tape.trans h.tape, hp.output.trans h.output, Nat.le_trans h.size hp.size, fun i hi hn => (hp.block i (Nat.lt_of_lt_of_le hi h.size) (fun e => hn (by cases e; exact hg))).trans (h.block i hi hn)⟩
theorem Cg.cell {G : Nat → Prop} {a b : World} (h : Cg G a b) {g j : Nat} (hg : g < a.heap.size) (hn : ¬ G g) : b.cell? ⟨g, j, none⟩ = a.cell? ⟨g, j, none⟩ := by
 have := h.block g hg hn
 simp only [World.cell?, this]
theorem Cg.grown' {G : Nat → Prop} {a b c : World} {row : Option Nat} (h : Cg G a b) (hp : b.grownBy c row) (hg : ∀ q, row = some q → G q ∨ a.heap.size ≤ q) : Cg G a c :=
 ⟨hp.os.trans h.os, hp.tape.trans h.tape, hp.output.trans h.output, Nat.le_trans h.size hp.size, fun j hj hn => (hp.block j (Nat.lt_of_lt_of_le hj h.size) (fun e => by
  rcases hg j e.symm with h1 | h1
  · exact hn h1
  · omega)).trans (h.block j hj hn)⟩
theorem Cg.row {G : Nat → Prop} {w w' : World} (h : Cg G w w') {k : Nat} {e : TypeId} {xs : List Value} (hr : Row w k e xs) (hk : ¬ G k) : Row w' k e xs := hr.other (h.block k hr.lt hk)
theorem Cg.below {G : Nat → Prop} {B : Nat} {a w w' : World} (h : Below B a w) (k : Cg G w w') (hg : ∀ g, G g → B ≤ g) (hB : B ≤ w.heap.size) : Below B a w' :=
 h.trans ⟨k.os, k.tape, k.output, k.size, fun i hi => k.block i (by omega) (fun hG => by have := hg i hG; omega)⟩
theorem Cg.trans {G : Nat → Prop} {a b c : World} (h : Cg G a b) (k : Cg G b c) : Cg G a c :=
 ⟨k.os.trans h.os, k.tape.trans h.tape, k.output.trans h.output, Nat.le_trans h.size k.size, fun i hi hg => (k.block i (Nat.lt_of_lt_of_le hi h.size) hg).trans (h.block i hi hg)⟩
/-- The second step may change blocks that are new since the first. -/
theorem Cg.andThen {G H : Nat → Prop} {a b c : World} (h : Cg G a b) (k : Cg H b c) (hH : ∀ g, H g → G g ∨ a.heap.size ≤ g) : Cg G a c :=
 ⟨k.os.trans h.os, k.tape.trans h.tape, k.output.trans h.output, Nat.le_trans h.size k.size, fun i hi hg => (k.block i (Nat.lt_of_lt_of_le hi h.size) (fun hk => by
  rcases hH i hk with h1 | h1
  · exact hg h1
  · omega)).trans (h.block i hi hg)⟩
theorem Cg.mono {G H : Nat → Prop} {a b : World} (h : Cg G a b) (hG : ∀ g, G g → H g) : Cg H a b := ⟨h.os, h.tape, h.output, h.size, fun i hi hn => h.block i hi fun hg => hn (hG i hg)⟩
theorem Cg.ofPu {G : Nat → Prop} {a b : World} (h : Pu a b) : Cg G a b := ⟨h.os, h.tape, h.output, h.size, fun i hi _ => h.block i hi⟩
theorem Cg.ofBut {G : Nat → Prop} {a b : World} {g : Nat} (h : But g a b) (hg : G g) : Cg G a b := ⟨h.os, h.tape, h.output, h.size, fun i hi hn => h.block i hi (fun e => hn (e ▸ hg))⟩
theorem Cg.toPu {G : Nat → Prop} {a b : World} (h : Cg G a b) (hG : ∀ g, G g → a.heap.size ≤ g) : Pu a b := ⟨h.os, h.tape, h.output, h.size, fun i hi => h.block i hi (fun hg => by have := hG i hg; omega)⟩
end Go.Proofs.YtoakccknimoogaaGreat
set_option linter.unusedSimpArgs false
set_option linter.unusedVariables false
namespace Go.Proofs.YtoakccknimoogaaGreat
open Go.RowKit Go.Esc
def qv (q : Q4) : Value := .tuple #[V q.a, V q.b, V q.c, V q.d]
theorem leftK (x : BitVec 32) (n : Nat) (h : n < 32) (w : World) :
 Calls Tryz.prog 164 #[V x, .int .i64 (n : Int)] w fun e w' => e = .returned (V (rotl x n)) ∧ w' = w := by
 have e : ((n : Int) % 32).toNat = n := by omega
 have hl := left x (n : Int) (by omega) (by omega) w
 rw [e] at hl; exact hl
set_option maxRecDepth 100000 in
set_option maxHeartbeats 800000 in
theorem quart (a b c d : BitVec 32) (w : World) :
 Calls Tryz.prog 144 #[V a, V b, V c, V d] w fun e w' => e = .returned (qv (quarter a b c d)) ∧ w' = w := by
 have h16 : ∀ (x : BitVec 32) (w : World), Calls Tryz.prog 164 #[V x, .int .i64 16] w fun e w' => e = .returned (V (rotl x 16)) ∧ w' = w := fun x w => leftK x 16 (by decide) w
 have h12 : ∀ (x : BitVec 32) (w : World), Calls Tryz.prog 164 #[V x, .int .i64 12] w fun e w' => e = .returned (V (rotl x 12)) ∧ w' = w := fun x w => leftK x 12 (by decide) w
 have h8 : ∀ (x : BitVec 32) (w : World), Calls Tryz.prog 164 #[V x, .int .i64 8] w fun e w' => e = .returned (V (rotl x 8)) ∧ w' = w := fun x w => leftK x 8 (by decide) w
 have h7 : ∀ (x : BitVec 32) (w : World), Calls Tryz.prog 164 #[V x, .int .i64 7] w fun e w' => e = .returned (V (rotl x 7)) ∧ w' = w := fun x w => leftK x 7 (by decide) w
 have H16 := Lib.hid h16
 have H12 := Lib.hid h12
 have H8 := Lib.hid h8
 have H7 := Lib.hid h7
 clear h16 h12 h8 h7
 go_enter Tryz.func144, Tryz.ntmps144
 go_wp2_with (go_at_call 164; first
  | (with_reducible refine (H16.out _ _).mono ?_
     rintro e w1 ⟨rfl, rfl⟩)
  | (with_reducible refine (H12.out _ _).mono ?_
     rintro e w1 ⟨rfl, rfl⟩)
  | (with_reducible refine (H8.out _ _).mono ?_
     rintro e w1 ⟨rfl, rfl⟩)
  | (with_reducible refine (H7.out _ _).mono ?_
     rintro e w1 ⟨rfl, rfl⟩))
 refine bodyPost_ret (v := qv (quarter a b c d)) (by simp [results, Tryz.results144, go_sem]; rfl) rfl ⟨rfl, rfl⟩
theorem refLeftK (x : BitVec 32) (n : Nat) (h : n < 32) (w : World) :
 Calls Tryz.prog 157 #[V x, .int .i64 (n : Int)] w fun e w' => e = .returned (V (rotl x n)) ∧ w' = w := by
 have e : ((n : Int) % 32).toNat = n := by omega
 have hl := refLeft x (n : Int) (by omega) (by omega) w
 rw [e] at hl; exact hl
set_option maxRecDepth 100000 in
set_option maxHeartbeats 800000 in
theorem refQuart (a b c d : BitVec 32) (w : World) :
 Calls Tryz.prog 128 #[V a, V b, V c, V d] w fun e w' => e = .returned (qv (quarter a b c d)) ∧ w' = w := by
 have h16 : ∀ (x : BitVec 32) (w : World), Calls Tryz.prog 157 #[V x, .int .i64 16] w fun e w' => e = .returned (V (rotl x 16)) ∧ w' = w := fun x w => refLeftK x 16 (by decide) w
 have h12 : ∀ (x : BitVec 32) (w : World), Calls Tryz.prog 157 #[V x, .int .i64 12] w fun e w' => e = .returned (V (rotl x 12)) ∧ w' = w := fun x w => refLeftK x 12 (by decide) w
 have h8 : ∀ (x : BitVec 32) (w : World), Calls Tryz.prog 157 #[V x, .int .i64 8] w fun e w' => e = .returned (V (rotl x 8)) ∧ w' = w := fun x w => refLeftK x 8 (by decide) w
 have h7 : ∀ (x : BitVec 32) (w : World), Calls Tryz.prog 157 #[V x, .int .i64 7] w fun e w' => e = .returned (V (rotl x 7)) ∧ w' = w := fun x w => refLeftK x 7 (by decide) w
 have H16 := Lib.hid h16
 have H12 := Lib.hid h12
 have H8 := Lib.hid h8
 have H7 := Lib.hid h7
 clear h16 h12 h8 h7
 go_enter Tryz.func128, Tryz.ntmps128
 go_wp2_with (go_at_call 157; first
  | (with_reducible refine (H16.out _ _).mono ?_
     rintro e w1 ⟨rfl, rfl⟩)
  | (with_reducible refine (H12.out _ _).mono ?_
     rintro e w1 ⟨rfl, rfl⟩)
  | (with_reducible refine (H8.out _ _).mono ?_
     rintro e w1 ⟨rfl, rfl⟩)
  | (with_reducible refine (H7.out _ _).mono ?_
     rintro e w1 ⟨rfl, rfl⟩))
 refine bodyPost_ret (v := qv (quarter a b c d)) (by simp [results, Tryz.results128, go_sem]; rfl) rfl ⟨rfl, rfl⟩
end Go.Proofs.YtoakccknimoogaaGreat
