/- Records, in plain Lean: sealed, opened, told in order. A store within a drawn region. A law for regions that draw their order, some operations of which, one behind the other, change a block. Maps in a walk: block b holds, for each key, a value or none. -/
import Derived.Test.YticdbilkhkfopaaGreatT7
import Derived.Maps.OwnSet
set_option linter.unusedSimpArgs false
set_option linter.unusedVariables false
namespace Go.Esc
open Go Go.RowKit Go.Proofs.YticdbilkhkfopaaGreat
theorem turn32 (k : Bs) (e : Nat) (h : k.length = 32) : (turnL k e).length = 32 := by
  rcases Nat.eq_zero_or_pos e with rfl | he
  · exact h
  · exact turnL_length2 k e he
theorem fine_turn (k : Bs) (e s : Nat) (h : k.length = 32) : fineL (turnL k e) (nonceL s) = true := by
  simp [fineL, turn32 k e h, nonceL_length]
/-- The record of a number. -/
def recL (key : Bs) (s : Nat) (plain : Bs) : Bs := putB s 8 ++ sealL (turnL key (s / 8)) (nonceL s) ((padL plain).getD []) (putB s 8)
/-- What is in a record of a number. -/
def plainL (key : Bs) (s : Nat) (b : Bs) : Option Bs := if (openR (turnL key (s / 8)) (nonceL s) (b.drop 8) (b.take 8)).2 then unpadL (openR (turnL key (s / 8)) (nonceL s) (b.drop 8) (b.take 8)).1 else none
def badForm (b : Bs) : Prop := b.length < 24 ∨ 400 ≤ beN (b.take 8)
instance (b : Bs) : Decidable (badForm b) := inferInstanceAs (Decidable (_ ∨ _))
/-- The texts that can be told, from number n on: k at most. -/
def runF (f : Nat → Option Bs) (n : Nat) : Nat → List Bs
  | 0 => []
  | k+1 => match f n with
    | none => []
    | some t => t :: runF f (n+1) k
/-- Just so many texts can be told. -/
def IsRun (f : Nat → Option Bs) (n : Nat) (out : List Bs) : Prop := (∀ j, j < out.length → f (n + j) = out[j]?) ∧ f (n + out.length) = none
theorem IsRun.uniq {f : Nat → Option Bs} {n : Nat} {a b : List Bs} (ha : IsRun f n a) (hb : IsRun f n b) : a = b := by
  have hl : a.length = b.length := by
    rcases Nat.lt_trichotomy a.length b.length with h | h | h
    · have h1 := hb.1 a.length h
      rw [ha.2, List.getElem?_eq_getElem h] at h1; cases h1
    · exact h
    · have h1 := ha.1 b.length h
      rw [hb.2, List.getElem?_eq_getElem h] at h1; cases h1
  apply List.ext_getElem? 
  intro j
  by_cases h : j < a.length
  · rw [← ha.1 j h, ← hb.1 j (by omega)]
  · rw [List.getElem?_eq_none (by omega), List.getElem?_eq_none (by omega)]
theorem runF_is (f : Nat → Option Bs) : ∀ (k n : Nat), f (n + k) = none → IsRun f n (runF f n k)
  | 0, n, h => ⟨fun j hj => by simp [runF] at hj, by simpa [runF] using h⟩
  | k+1, n, h => by
    unfold runF
    cases hf : f n with
    | none => exact ⟨fun j hj => by simp at hj, by simpa using hf⟩
    | some t =>
      obtain ⟨h1, h2⟩ := runF_is f k (n+1) (by rw [Nat.add_right_comm]; exact h)
      refine ⟨fun j hj => ?_, ?_⟩
      · match j, hj with
        | 0, _ => simpa using hf
        | j+1, hj =>
          have := h1 j (by simpa using hj)
          rw [show n + (j+1) = n + 1 + j by omega, this]; simp
      · rw [List.length_cons, show n + ((runF f (n+1) k).length + 1) = n + 1 + (runF f (n+1) k).length by omega]; exact h2
def updF (f : Nat → Option Bs) (k : Nat) (v : Option Bs) : Nat → Option Bs := fun x => if x = k then v else f x
def cutF (f : Nat → Option Bs) (m : Nat) : Nat → Option Bs := fun k => if k < m then none else f k
/-- What was taken, and not told yet: the first number that was not told, the texts, how many. -/
structure InS where
  n : Nat
  f : Nat → Option Bs
  c : Nat
structure InS.Ok (s : InS) : Prop where
  key : ∀ k, (s.f k).isSome = true → s.n < k ∧ k < s.n + 64 ∧ k < 400
  n : s.n ≤ 400
theorem ok_step {s : InS} (hs : s.Ok) {q : Nat} {t : Bs} {out : List Bs} (hq2 : q < s.n + 64) (hq3 : q < 400) (hrun : IsRun (updF s.f q (some t)) s.n out) (c : Nat) :
    InS.Ok ⟨s.n + out.length, cutF (updF s.f q (some t)) (s.n + out.length), c⟩ := by
  have hb : ∀ k, (updF s.f q (some t) k).isSome = true → k < s.n + 64 ∧ k < 400 := fun k hk => by
    unfold updF at hk
    by_cases hkq : k = q
    · omega
    · rw [if_neg hkq] at hk
      have := hs.key k hk
      omega
  refine ⟨fun k hk => ?_, ?_⟩
  · simp only [cutF] at hk
    split at hk
    · cases hk
    · next hlt =>
      have h1 := hb k hk
      have h2 : k ≠ s.n + out.length := fun e => by rw [e, hrun.2] at hk; cases hk
      simp only
      omega
  · simp only
    rcases Nat.eq_zero_or_pos out.length with h0 | h0
    · have := hs.n; omega
    · have h1 := hrun.1 (out.length - 1) (by omega)
      rw [List.getElem?_eq_getElem (by omega)] at h1
      have := hb (s.n + (out.length - 1)) (by rw [h1]; rfl)
      omega
/-- A record comes: the error, the texts that are told, what is left. -/
def openS (key : Bs) (s : InS) (b : Bs) : Nat × List Bs × InS :=
  if badForm b then (2, [], s)
  else
    let q := beN (b.take 8)
    if q < s.n ∨ s.n + 64 ≤ q ∨ (s.f q).isSome = true then (4, [], s)
    else match plainL key q b with
      | none => (3, [], s)
      | some t =>
        let f' := updF s.f q (some t)
        let out := runF f' s.n 1000
        (0, out, ⟨s.n + out.length, cutF f' (s.n + out.length), s.c + 1 - out.length⟩)
end Go.Esc
namespace Go.Esc
open Go Go.RowKit
section
variable {P : Program} {ops : Array Oper} {Q : Exit → Act → World → Prop}
theorem op_doneB {g : Nat} {Φ : Value → World → Prop} {i : Nat} {o : Oper} {a' : Act} {w' w'' : World} (ho : ops[i]? = some o) (hw : Region.wanted o (yielded ops a'.tmps) = true)
    (hrun : (execOp a'.eval o).run P w' = .ok .skip w'') (hφ : Φ (if o.dst.isSome then undef else undef) w'') (hp : But g w' w'') :
    wpOp P ops Q i (fun a'' w'' => ∃ v, a'' = a'.put o.dst v ∧ Φ (if o.dst.isSome then v else undef) w'' ∧ But g w' w'') a' w' := by
  unfold wpOp
  simp only [ho, hw, if_true]
  refine .inl ?_
  unfold Oper.wp
  rw [hrun]
  exact ⟨undef, rfl, hφ, hp⟩
end
end Go.Esc
namespace Go.Esc
open Go Go.RowKit
/-- What an operation awaits. -/
def awaits (ops : Array Oper) (i : Nat) : List Nat := ((ops[i]?).map fun o => (o.after.toList.filter fun e => Region.binds .any e).map (·.on)).getD []
/-- For each operation those that it awaits, also through others. -/
def ups (ops : Array Oper) : List (List Nat) := (List.range ops.size).foldl (fun acc i => acc ++ [((awaits ops i) ++ (awaits ops i).flatMap (fun e => acc.getD e [])).eraseDups]) []
def upOk (ops : Array Oper) (up : List (List Nat)) : Bool := (List.range ops.size).all fun i => (up.getD i []).all fun k => (awaits ops i).any fun e => e == k || (up.getD e []).contains k
def chainOk (up : List (List Nat)) (chain : List Nat) (n : Nat) : Bool := (List.range chain.length).all fun q => decide (chain.getD q 0 < n) && (List.range q).all fun r => (up.getD (chain.getD q 0) []).contains (chain.getD r 0) && !(chain.getD q 0 == chain.getD r 0)
def loOf (up : List (List Nat)) (chain : List Nat) (i : Nat) : Nat := (List.range chain.length).foldl (fun m q => if (up.getD i []).contains (chain.getD q 0) then q + 1 else m) 0
def hiOf (up : List (List Nat)) (chain : List Nat) (i : Nat) : Nat := (List.range chain.length).foldr (fun q m => if (up.getD (chain.getD q 0) []).contains i || chain.getD q 0 == i then q else m) chain.length
theorem loOf_le {up : List (List Nat)} {chain : List Nat} {i s : Nat} (h : ∀ q, q < chain.length → (up.getD i []).contains (chain.getD q 0) = true → q < s) : loOf up chain i ≤ s := by
  have key : ∀ (l : List Nat) (m : Nat), m ≤ s → (∀ q ∈ l, q < chain.length) → l.foldl (fun m q => if (up.getD i []).contains (chain.getD q 0) then q + 1 else m) m ≤ s := by
    intro l
    induction l with
    | nil => intro m hm _; exact hm
    | cons q l ih =>
      intro m hm hl
      simp only [List.foldl_cons]
      refine ih _ ?_ fun q' hq => hl q' (by simp [hq])
      split
      · next hc => exact h q (hl q (by simp)) hc
      · exact hm
  exact key _ 0 (Nat.zero_le _) fun q hq => List.mem_range.1 hq
theorem hiOf_ge {up : List (List Nat)} {chain : List Nat} {i s : Nat} (hs : s ≤ chain.length) (h : ∀ q, q < chain.length → ((up.getD (chain.getD q 0) []).contains i || chain.getD q 0 == i) = true → s ≤ q) : s ≤ hiOf up chain i := by
  have key : ∀ (l : List Nat), (∀ q ∈ l, q < chain.length) → s ≤ l.foldr (fun q m => if (up.getD (chain.getD q 0) []).contains i || chain.getD q 0 == i then q else m) chain.length := by
    intro l
    induction l with
    | nil => intro _; exact hs
    | cons q l ih =>
      intro hl
      simp only [List.foldr_cons]
      split
      · next hc => exact h q (hl q (by simp)) hc
      · exact ih fun q' hq => hl q' (by simp [hq])
  exact key _ fun q hq => List.mem_range.1 hq
section
variable {P : Program} {ops : Array Oper} {Q : Exit → Act → World → Prop}
/-- What is asked of an operation: of the chain's number s, that it leads from state s to the next one; of another one, that it makes new blocks at most. -/
def OpOkC (P : Program) (ops : Array Oper) (Q : Exit → Act → World → Prop) (g : Nat) (up : List (List Nat)) (chain : List Nat) (C : Nat → World → Prop) (Φs : List (Value → World → Prop)) (a : Act) (w : World) (i : Nat) (o : Oper) : Prop :=
  ∀ (a' : Act) (w' : World) (s : Nat), (∀ t : Nat, isDst ops t = false → a'.tmps[t]?.getD undef = a.tmps[t]?.getD undef) → But g w w' → C s w' → loOf up chain i ≤ s → s ≤ hiOf up chain i →
    (∀ e ∈ o.after.toList, Region.binds .any e = true → Φs.getD e.on Any (match (ops[e.on]?).bind (·.dst) with | some d => a'.tmps[d]?.getD undef | none => undef) w') →
    if chain.contains i then (chain[s]? = some i → wpOp P ops Q i (fun a'' w'' => ∃ v, a'' = a'.put o.dst v ∧ (Φs.getD i Any (if o.dst.isSome then v else undef) w'' ∧ C (s+1) w'') ∧ But g w' w'') a' w')
    else wpOp P ops Q i (fun a'' w'' => ∃ v, a'' = a'.put o.dst v ∧ Φs.getD i Any (if o.dst.isSome then v else undef) w'' ∧ Pu w' w'') a' w'
theorem region_chain (id : Nat) (g : Nat) (chain : List Nat) (C : Nat → World → Prop) (Φs : List (Value → World → Prop)) {a : Act} {w : World}
    (hm : P.follows .mixedOrders = true) (hE : edgesBack ops = true) (hD : dstsApart ops = true) (hup : upOk ops (ups ops) = true) (hch : chainOk (ups ops) chain ops.size = true)
    [hΦ : AllStableB g Φs] (hC : ∀ s a b, C s a → Pu a b → C s b) (hC0 : C 0 w)
    (hsize : (ops.toList.all fun o => match o.dst with | some d => decide (d < a.tmps.size) | none => true) = true)
    (hop : AllOps (OpOkC P ops Q g (ups ops) chain C Φs a w) 0 ops.toList)
    (hend : ∀ (a' : Act) (w' : World), a'.defers = a.defers → a'.tmps.size = a.tmps.size → (∀ t : Nat, isDst ops t = false → a'.tmps[t]?.getD undef = a.tmps[t]?.getD undef) → But g w w' → C chain.length w' →
      AllOps (fun j oj => Φs.getD j Any (match oj.dst with | some d => a'.tmps[d]?.getD undef | none => undef) w') 0 ops.toList → Q .normal a' w') :
    (Code.region id ops true).wp P Q a w := by
  refine wp_region_any hm ?_
  obtain ⟨up, hupe⟩ : ∃ up, up = ups ops := ⟨_, rfl⟩
  rw [← hupe] at hup hch hop
  clear hupe
  let Φ : Nat → Value → World → Prop := fun i => Φs.getD i Any
  have hkeep : ∀ i v a b, Φ i v a → But g a b → Φ i v b := by
    intro i v a b h hc
    by_cases hi : i < Φs.length
    · have e : Φs.getD i Any = Φs[i] := by simp [List.getD, List.getElem?_eq_getElem hi]
      simp only [Φ, e] at h ⊢
      exact hΦ.keep _ (List.getElem_mem hi) _ _ _ h hc
    · have e : Φs.getD i Any = Any := by simp [List.getD, List.getElem?_eq_none (by omega : Φs.length ≤ i)]
      simp only [Φ, e]; trivial
  have hchain : ∀ q, q < chain.length → chain.getD q 0 < ops.size ∧ ∀ r, r < q → (up.getD (chain.getD q 0) []).contains (chain.getD r 0) = true ∧ chain.getD q 0 ≠ chain.getD r 0 := by
    intro q hq
    simp only [chainOk, List.all_eq_true, List.mem_range, Bool.and_eq_true, decide_eq_true_eq] at hch
    obtain ⟨h1, h2⟩ := hch q hq
    refine ⟨h1, fun r hr => ?_⟩
    obtain ⟨h3, h4⟩ := h2 r hr
    exact ⟨h3, by simpa using h4⟩
  have hinj : ∀ q r, q < chain.length → r < chain.length → chain.getD q 0 = chain.getD r 0 → q = r := by
    intro q r hq hr he
    rcases Nat.lt_trichotomy q r with h | h | h
    · exact absurd he.symm ((hchain r hr).2 q h).2
    · exact h
    · exact absurd he ((hchain q hq).2 r h).2
  let Inv : Array Bool → Act → World → Prop := fun listed a' w' => listed.size = ops.size ∧ a'.defers = a.defers ∧ a'.tmps.size = a.tmps.size ∧
    (∀ t : Nat, isDst ops t = false → a'.tmps[t]?.getD undef = a.tmps[t]?.getD undef) ∧ But g w w' ∧
    (∀ j, listed[j]? = some true → ∀ k, (up.getD j []).contains k = true → listed[k]? = some true) ∧
    (∃ s, s ≤ chain.length ∧ C s w' ∧ ∀ q, q < chain.length → (listed[chain.getD q 0]? = some true ↔ q < s)) ∧
    ∀ (j : Nat) (oj : Oper), ops[j]? = some oj → listed[j]? = some true → Φ j (match oj.dst with | some d => a'.tmps[d]?.getD undef | none => undef) w'
  refine wpAny_inv .any Inv ?_ ?_ (fun _ _ _ h => h.1) ops.size _ a _ ?_ ?_
  · intro listed a' w' ⟨h1, h2, h3, h4, h5, hcl, ⟨s, hs1, hs2, hs3⟩, h6⟩ i hi
    simp only [Region.ready, List.mem_filter, List.mem_range, Bool.and_eq_true, Bool.not_eq_true'] at hi
    obtain ⟨hi1, hi2, hi3⟩ := hi
    have ho : ops[i]? = some ops[i] := Array.getElem?_eq_getElem hi1
    have hlt : i < listed.size := by omega
    have hif : listed[i]? = some false := by
      simp [Array.getD_eq_getD_getElem?, Array.getElem?_eq_getElem hlt] at hi2
      rw [Array.getElem?_eq_getElem hlt, hi2]
    have haw : ∀ e ∈ ops[i].after.toList, Region.binds .any e = true → listed[e.on]? = some true := by
      intro e he hb
      rw [ho] at hi3
      simp only [Option.map_some, Option.getD_some, Array.all_eq_true_iff_forall_mem] at hi3
      have h7 := hi3 e (by simpa using he)
      simp only [hb, Bool.not_true, Bool.false_or] at h7
      cases hq : listed[e.on]? with
      | none => simp [Array.getD_eq_getD_getElem?, hq] at h7
      | some x => simp [Array.getD_eq_getD_getElem?, hq] at h7; rw [h7]
    have hupi : ∀ k, (up.getD i []).contains k = true → listed[k]? = some true := by
      intro k hk
      simp only [upOk, List.all_eq_true, List.mem_range] at hup
      have h8 := hup i hi1 k (by simpa using hk)
      simp only [List.any_eq_true, Bool.or_eq_true, beq_iff_eq] at h8
      obtain ⟨e, he, hek⟩ := h8
      simp only [awaits, ho, Option.map_some, Option.getD_some, List.mem_map, List.mem_filter] at he
      obtain ⟨ed, ⟨hed1, hed2⟩, rfl⟩ := he
      have h9 := haw ed hed1 hed2
      rcases hek with rfl | hek
      · exact h9
      · exact hcl _ h9 k hek
    have hlo : loOf up chain i ≤ s := loOf_le fun q hq hc => (hs3 q hq).1 (hupi _ hc)
    have hhi : s ≤ hiOf up chain i := hiOf_ge hs1 fun q hq hc => by
      apply Nat.le_of_not_lt; intro hqs
      have h0 := (hs3 q hq).2 hqs
      have : listed[i]? = some true := by
        rcases Bool.or_eq_true _ _ ▸ hc with hc | hc
        · exact hcl _ h0 i hc
        · rw [← (by simpa using hc : chain.getD q 0 = i)]; exact h0
      rw [hif] at this; cases this
    have hk := hop.get i ops[i] (by simp)
    rw [Nat.zero_add] at hk
    have hk2 := hk a' w' s h4 h5 hs2 hlo hhi (fun e he hb => by
      have h8 := haw e he hb
      have hlt : e.on < ops.size := by
        have := (Array.getElem?_eq_some_iff.1 h8).1; omega
      have h9 := h6 e.on ops[e.on] (Array.getElem?_eq_getElem hlt) h8
      rw [Array.getElem?_eq_getElem hlt]
      exact h9)
    have hstep : ∀ (v : Value) (w'' : World), Φs.getD i Any (if ops[i].dst.isSome then v else undef) w'' → But g w' w'' → (∃ s', s' ≤ chain.length ∧ C s' w'' ∧ ∀ q, q < chain.length → ((listed.setIfInBounds i true)[chain.getD q 0]? = some true ↔ q < s')) →
        Inv (listed.setIfInBounds i true) (a'.put ops[i].dst v) w'' := by
      intro v w'' hv hR hS
      refine ⟨by simpa using h1, ?_, ?_, ?_, h5.trans hR, ?_, hS, ?_⟩
      · cases ops[i].dst <;> exact h2
      · cases ops[i].dst <;> simp [Act.put, h3]
      · intro t ht
        rw [← h4 t ht]
        have hne0 : ops[i].dst ≠ some t := by
          intro e
          have : isDst ops t = true := by
            simp only [isDst, Array.any_eq_true]
            exact ⟨i, hi1, by rw [e]; simp⟩
          rw [ht] at this; cases this
        cases hd : ops[i].dst with
        | none => rfl
        | some d =>
          have hne : d ≠ t := fun e => hne0 (by rw [hd, e])
          simp [Act.put, Array.getElem?_setIfInBounds_ne hne]
      · intro j hj k hk
        have hkl : listed[k]? = some true := by
          by_cases hij : i = j
          · subst hij; exact hupi k hk
          · rw [Array.getElem?_setIfInBounds_ne hij] at hj; exact hcl j hj k hk
        by_cases hik : i = k
        · subst hik; rw [Array.getElem?_setIfInBounds_self, if_pos hlt]
        · rw [Array.getElem?_setIfInBounds_ne hik]; exact hkl
      · intro j oj hj hl
        by_cases hij : i = j
        · subst hij
          rw [ho] at hj; cases hj
          cases hd : ops[i].dst with
          | none => rw [hd] at hv; exact hv
          | some d =>
            rw [hd] at hv
            have hdl : d < a'.tmps.size := by
              rw [h3]
              have := List.all_eq_true.1 hsize ops[i] (by simp)
              rw [hd] at this; simpa using this
            have hv' : Φ i v w'' := hv
            simpa [Act.put, Array.getElem?_setIfInBounds_self, hdl] using hv'
        · have hl' : listed[j]? = some true := by rw [Array.getElem?_setIfInBounds_ne hij] at hl; exact hl
          have hold := hkeep j _ _ _ (h6 j oj hj hl') hR
          cases hd2 : oj.dst with
          | none => rw [hd2] at hold; exact hold
          | some d2 =>
            rw [hd2] at hold
            cases hd : ops[i].dst with
            | none => exact hold
            | some d =>
              have hne : d ≠ d2 := by
                simp only [dstsApart, List.all_eq_true, List.mem_range] at hD
                have hj1 : j < ops.size := (Array.getElem?_eq_some_iff.1 hj).1
                have := hD i hi1 j hj1
                rw [ho, hj] at this
                simp [hd, hd2, hij] at this
                exact this
              simpa [Act.put, Array.getElem?_setIfInBounds_ne hne] using hold
    by_cases hic : chain.contains i = true
    · rw [if_pos hic] at hk2
      obtain ⟨q, hq, hqi⟩ := List.getElem_of_mem (by simpa using hic : i ∈ chain)
      have hqd : chain.getD q 0 = i := by rw [List.getD_eq_getElem?_getD, List.getElem?_eq_getElem hq]; exact hqi
      have hqs : q = s := by
        have h10 : ¬ q < s := fun h => by
          have := (hs3 q hq).2 h
          rw [hqd, hif] at this; cases this
        rcases Nat.lt_or_ge s q with h11 | h11
        · have := ((hchain q hq).2 s h11).1
          rw [hqd] at this
          have h12 := (hs3 s (by omega)).1 (hupi _ this)
          omega
        · omega
      subst hqs
      refine wpOp_mono ?_ (hk2 (by rw [List.getElem?_eq_getElem hq, hqi]))
      rintro a'' w'' ⟨v, rfl, ⟨hv, hCs⟩, hR⟩
      refine hstep v w'' hv hR ⟨q + 1, by omega, hCs, fun r hr => ?_⟩
      by_cases hrq : r = q
      · subst hrq
        rw [hqd, Array.getElem?_setIfInBounds_self, if_pos hlt]; simp
      · have hne : i ≠ chain.getD r 0 := fun h => hrq (hinj r q hr hq (by rw [hqd, ← h]))
        rw [Array.getElem?_setIfInBounds_ne hne, hs3 r hr]; omega
    · rw [if_neg hic] at hk2
      refine wpOp_mono ?_ hk2
      rintro a'' w'' ⟨v, rfl, hv, hR⟩
      refine hstep v w'' hv (But.pu hR) ⟨s, hs1, hC s _ _ hs2 hR, fun r hr => ?_⟩
      have hne : i ≠ chain.getD r 0 := fun h => hic (by
        simp only [List.contains_eq_mem, decide_eq_true_eq]
        rw [h, List.getD_eq_getElem?_getD, List.getElem?_eq_getElem hr]; exact List.getElem_mem hr)
      rw [Array.getElem?_setIfInBounds_ne hne, hs3 r hr]
  · intro listed a' w' ⟨h1, h2, h3, h4, h5, hcl, ⟨s, hs1, hs2, hs3⟩, h6⟩ hr
    have hall := ready_nil hE listed h1 hr
    have hse : s = chain.length := by
      rcases Nat.lt_or_ge s chain.length with h | h
      · have := (hs3 s h).1 (hall _ (hchain s h).1); omega
      · omega
    subst hse
    refine hend a' w' h2 h3 h4 h5 hs2 (AllOps.mk' _ _ fun j o hj => ?_)
    rw [Nat.zero_add]
    have hj' : ops[j]? = some o := by simpa using hj
    exact h6 j o hj' (hall j (Array.getElem?_eq_some_iff.1 hj').1)
  · have hch : Pu w { w with drawn := w.drawn + 1 } := ⟨rfl, rfl, rfl, Nat.le_refl _, fun _ _ => rfl⟩
    have hfalse : ∀ (j : Nat), (Array.replicate ops.size false)[j]? ≠ some true := by
      intro j h
      by_cases hj : j < ops.size
      · rw [Array.getElem?_replicate, if_pos hj] at h; cases h
      · rw [Array.getElem?_replicate, if_neg hj] at h; cases h
    exact ⟨by simp, rfl, rfl, fun _ _ => rfl, But.pu hch, fun j hj => absurd hj (hfalse j), ⟨0, Nat.zero_le _, hC 0 _ _ hC0 hch, fun q hq => ⟨fun h => absurd h (hfalse _), fun h => absurd h (Nat.not_lt_zero _)⟩⟩, fun j oj hj hl => absurd hl (hfalse j)⟩
  · rw [Array.toList_replicate, List.count_replicate_self]; exact Nat.le_refl _
theorem op_doneC {g : Nat} {Φ : Value → World → Prop} {C : World → Prop} {i : Nat} {o : Oper} {a' : Act} {w' w'' : World} (ho : ops[i]? = some o) (hw : Region.wanted o (yielded ops a'.tmps) = true)
    (hrun : (execOp a'.eval o).run P w' = .ok .skip w'') (hφ : Φ (if o.dst.isSome then undef else undef) w'') (hC : C w'') (hp : But g w' w'') :
    wpOp P ops Q i (fun a'' w'' => ∃ v, a'' = a'.put o.dst v ∧ (Φ (if o.dst.isSome then v else undef) w'' ∧ C w'') ∧ But g w' w'') a' w' := by
  unfold wpOp
  simp only [ho, hw, if_true]
  refine .inl ?_
  unfold Oper.wp
  rw [hrun]
  exact ⟨undef, rfl, ⟨hφ, hC⟩, hp⟩
end
end Go.Esc
namespace Go.Esc
open Go Go.RowKit Go.Maps
/-- Every value reads as itself. -/
def heldR : Value → Option (DataW Value × List MemPlace) := fun v => some (.held v, [])
/-- How keys are written. -/
structure KeyOf (P : Program) (kt : TypeId) {K : Type} (lit : K → Lit) (val : K → Value) (ok : K → Prop) : Prop where
  keyed : Keyed P kt
  inj : ∀ a b, lit a = lit b → a = b
  isKey : ∀ a, WideAt.IsKeyLit (lit a)
  reads : ∀ a, ok a → keyOf P kt (val a) = some (lit a)
section
variable {P : Program} {kt : TypeId} {K : Type} {lit : K → Lit} {val : K → Value} {ok : K → Prop}
/-- Block b is a map of c entries that holds f. -/
def MapAt (P : Program) (kt : TypeId) {K : Type} (lit : K → Lit) (w : World) (b c : Nat) (f : K → Option Value) : Prop :=
  ∃ D : DataW Value, w.ownsMap P kt heldR b c D ∧ Tidy D ∧ Maps.size D = c ∧ ∀ k, Maps.has D (lit k) = (f k).isSome ∧ ∀ z, D.atKey (lit k) (.held z) = .held ((f k).getD z)
theorem MapAt.lt {w : World} {b c : Nat} {f : K → Option Value} (h : MapAt P kt lit w b c f) : b < w.heap.size := by
  obtain ⟨D, h, _⟩ := h; exact h.lt
theorem MapAt.made (w : World) : MapAt P kt lit (w.alloc (.map #[] 0)) w.heap.size 0 (fun _ => none) :=
  ⟨.map [], World.ownsMap_made w P kt heldR, tidy_empty, rfl, fun _ => ⟨rfl, fun _ => rfl⟩⟩
theorem MapAt.other {w w' : World} {b c : Nat} {f : K → Option Value} (h : MapAt P kt lit w b c f) (hb : w'.heap[b]? = w.heap[b]?) : MapAt P kt lit w' b c f := by
  obtain ⟨D, ⟨es, clock, he, r⟩, r2⟩ := h
  exact ⟨D, ⟨es, clock, hb.trans he, r⟩, r2⟩
theorem MapAt.pu {w w' : World} {b c : Nat} {f : K → Option Value} (h : MapAt P kt lit w b c f) (hp : Pu w w') : MapAt P kt lit w' b c f := h.other (hp.block b h.lt)
theorem zeroHeld {e : TypeId} {z : Value} {w : World} (_ : (zeroValue e).run P w = .ok z w) : heldR z = some (.held z, []) := rfl
theorem MapAt.get (hK : KeyOf P kt lit val ok) {w : World} {b c : Nat} {f : K → Option Value} (h : MapAt P kt lit w b c f) {t e : TypeId} (ht : P.underlying t = some (.map kt e)) {z : Value} (hz : (zeroValue e).run P w = .ok z w) (k : K) (hk : ok k) :
    (Instr.lookup t (.map (some b)) (val k) false).run P w = .ok ((f k).getD z) w := by
  obtain ⟨D, ho, _, _, hf⟩ := h
  obtain ⟨v, ps, hrun, hv⟩ := ho.lookup hK.keyed ht hz (zd := .held z) (zp := []) rfl (hK.reads k hk)
  simp only [heldR, Option.some.injEq, Prod.mk.injEq] at hv
  have := hv.1
  rw [(hf k).2 z] at this
  cases this
  exact hrun
theorem MapAt.get2 (hK : KeyOf P kt lit val ok) {w : World} {b c : Nat} {f : K → Option Value} (h : MapAt P kt lit w b c f) {t e : TypeId} (ht : P.underlying t = some (.map kt e)) {z : Value} (hz : (zeroValue e).run P w = .ok z w) (k : K) (hk : ok k) :
    (Instr.lookup t (.map (some b)) (val k) true).run P w = .ok (.tuple #[(f k).getD z, .bool (f k).isSome]) w := by
  obtain ⟨D, ho, _, _, hf⟩ := h
  obtain ⟨v, ps, hrun, hv⟩ := ho.look_ok hK.keyed ht hz (zd := .held z) (zp := []) rfl (hK.reads k hk)
  simp only [heldR, Option.some.injEq, Prod.mk.injEq] at hv
  have := hv.1
  rw [(hf k).2 z] at this
  cases this
  rw [(hf k).1] at hrun
  exact hrun
theorem MapAt.len {w : World} {b c : Nat} {f : K → Option Value} (h : MapAt P kt lit w b c f) {t e : TypeId} (ht : P.underlying t = some (.map kt e)) (ty : TypeId) : (Builtin.len_ #[t] ty #[.map (some b)]).run P w = .ok (.int .i64 c) w := by
  obtain ⟨D, ho, _, hs, _⟩ := h
  have := ho.len ht ty
  rw [hs] at this
  exact this
variable [DecidableEq K]
def upd (f : K → Option Value) (k : K) (v : Option Value) : K → Option Value := fun x => if x = k then v else f x
theorem MapAt.set (hK : KeyOf P kt lit val ok) {w : World} {b c : Nat} {f : K → Option Value} (h : MapAt P kt lit w b c f) {t e : TypeId} (ht : P.underlying t = some (.map kt e)) (hc : c < maxLen) (k : K) (hk : ok k) (v : Value) :
    ∃ w', (Instr.mapUpdate t (.map (some b)) (val k) v).run P w = .ok () w' ∧ MapAt P kt lit w' b (if (f k).isSome then c else c + 1) (upd f k (some v)) ∧ w.grownBy w' (some b) := by
  obtain ⟨D, ho, hT, hs, hf⟩ := h
  obtain ⟨w', hrun, ho', hg⟩ := ho.update hK.keyed ht hc (hK.reads k hk) (show heldR v = some (.held v, []) from rfl)
  have hsz := size_put (k := lit k) hT (.held v)
  have hT' := hT.put (hK.isKey k) (.held v)
  rw [(hf k).1, hs] at hsz
  obtain ⟨es, clock, he, F, hn, hD⟩ := ho'
  have hes : es.size = (if (f k).isSome then c else c + 1) := by
    rw [← hsz, hD]; simp [Maps.size, length_sorted]
  refine ⟨w', hrun, ⟨D.put (lit k) (.held v), ⟨es, clock, he, F, Nat.le_of_eq hes, hD⟩, hT', hsz, fun x => ?_⟩, hg⟩
  unfold upd
  by_cases hx : x = k
  · subst hx
    rw [if_pos rfl]
    exact ⟨has_put_same hT.isMap (hK.isKey x) _, fun z => atKey_put_same hT.isMap (hK.isKey x) _ _⟩
  · rw [if_neg hx]
    have hne : lit x ≠ lit k := fun e => hx (hK.inj _ _ e)
    exact ⟨by rw [has_put_other hne]; exact (hf x).1, fun z => by rw [atKey_put_other hne]; exact (hf x).2 z⟩
theorem MapAt.del (hK : KeyOf P kt lit val ok) {w : World} {b c : Nat} {f : K → Option Value} (h : MapAt P kt lit w b c f) {t e : TypeId} (ht : P.underlying t = some (.map kt e)) (k : K) (hk : ok k) (ty : TypeId) :
    ∃ w', (Builtin.delete_ #[t, kt] ty #[.map (some b), val k]).run P w = .ok (.tuple #[]) w' ∧ MapAt P kt lit w' b (if (f k).isSome then c - 1 else c) (upd f k none) ∧ w.grownBy w' (some b) := by
  obtain ⟨D, ho, hT, hs, hf⟩ := h
  obtain ⟨w', hrun, ho', hg⟩ := ho.drop hK.keyed ht (hK.reads k hk) ty
  have hsz := size_del (k := lit k) hT
  have hT' := hT.del (lit k)
  rw [(hf k).1, hs] at hsz
  have hsz' : Maps.size (D.del (lit k)) = (if (f k).isSome then c - 1 else c) := by
    split
    · next h => rw [if_pos h] at hsz; omega
    · next h => rw [if_neg h] at hsz; omega
  obtain ⟨es, clock, he, F, hn, hD⟩ := ho'
  have hes : es.size = (if (f k).isSome then c - 1 else c) := by
    rw [← hsz', hD]; simp [Maps.size, length_sorted]
  refine ⟨w', hrun, ⟨D.del (lit k), ⟨es, clock, he, F, Nat.le_of_eq hes, hD⟩, hT', hsz', fun x => ?_⟩, hg.grown⟩
  unfold upd
  by_cases hx : x = k
  · subst hx
    rw [if_pos rfl]
    exact ⟨has_del_same, fun z => atKey_del_same _⟩
  · rw [if_neg hx]
    have hne : lit x ≠ lit k := fun e => hx (hK.inj _ _ e)
    exact ⟨by rw [has_del_other hne]; exact (hf x).1, fun z => by rw [atKey_del_other hne]; exact (hf x).2 z⟩
end
theorem nil_get {P : Program} {kt : TypeId} {K : Type} {lit : K → Lit} {val : K → Value} {ok : K → Prop} (hK : KeyOf P kt lit val ok) {w : World} {t e : TypeId} (ht : P.underlying t = some (.map kt e)) {z : Value} (hz : (zeroValue e).run P w = .ok z w) (k : K) (hk : ok k) (c : Bool) :
    (Instr.lookup t (.map none) (val k) c).run P w = .ok (if c then .tuple #[z, .bool false] else z) w := Maps.look_nil c hK.keyed ht hz (hK.reads k hk)
section
variable {P : Program} {kt : TypeId} {K : Type} {lit : K → Lit} {val : K → Value} {ok : K → Prop}
theorem wpList_map_get (w : World) {ops : Array Oper} {rest : List Oper} {o : Oper} {a : Act} {Q : Exit → Act → World → Prop}
    (hg : o.guard = none) (m x : Operand) (t : TypeId) (hop : o.op = Op.lookup t m x false)
    (e : TypeId) (hK : KeyOf P kt lit val ok) (ht : P.underlying t = some (.map kt e)) {z : Value} (hz : (zeroValue e).run P w = .ok z w) (b c : Nat) (f : K → Option Value) (hm : a.eval m = .map (some b)) (hown : MapAt P kt lit w b c f) (k : K) (hk : ok k) (hx : a.eval x = val k)
    (hQ : wpList P ops Q rest (a.put o.dst ((f k).getD z)) w) : wpList P ops Q (o :: rest) a w := by
  refine wpList_plain hg fun K' hK' => ?_
  unfold Oper.wp
  simp [execOp, hop, hm, hx, hown.get hK ht hz k hk, Result.andThen]
  exact hK' _ _ hQ
theorem wpList_map_get2 (w : World) {ops : Array Oper} {rest : List Oper} {o : Oper} {a : Act} {Q : Exit → Act → World → Prop}
    (hg : o.guard = none) (m x : Operand) (t : TypeId) (hop : o.op = Op.lookup t m x true)
    (e : TypeId) (hK : KeyOf P kt lit val ok) (ht : P.underlying t = some (.map kt e)) {z : Value} (hz : (zeroValue e).run P w = .ok z w) (b c : Nat) (f : K → Option Value) (hm : a.eval m = .map (some b)) (hown : MapAt P kt lit w b c f) (k : K) (hk : ok k) (hx : a.eval x = val k)
    (hQ : wpList P ops Q rest (a.put o.dst (.tuple #[(f k).getD z, .bool (f k).isSome])) w) : wpList P ops Q (o :: rest) a w := by
  refine wpList_plain hg fun K' hK' => ?_
  unfold Oper.wp
  simp [execOp, hop, hm, hx, hown.get2 hK ht hz k hk, Result.andThen]
  exact hK' _ _ hQ
variable [DecidableEq K] in
theorem wpList_map_set (w : World) {ops : Array Oper} {rest : List Oper} {o : Oper} {a : Act} {Q : Exit → Act → World → Prop}
    (hg : o.guard = none) (m x v : Operand) (t : TypeId) (hop : o.op = Op.mapUpdate t m x v)
    (e : TypeId) (hK : KeyOf P kt lit val ok) (ht : P.underlying t = some (.map kt e)) (b c : Nat) (f : K → Option Value) (hm : a.eval m = .map (some b)) (hown : MapAt P kt lit w b c f) (hc : c < maxLen) (k : K) (hk : ok k) (hx : a.eval x = val k) (u : Value) (hv : a.eval v = u)
    (hQ : ∀ w', MapAt P kt lit w' b (if (f k).isSome then c else c + 1) (upd f k (some u)) → w.grownBy w' (some b) → wpList P ops Q rest (a.put o.dst undef) w') : wpList P ops Q (o :: rest) a w := by
  refine wpList_plain hg fun K' hK' => ?_
  obtain ⟨w', hrun, r1, r2⟩ := hown.set hK ht hc k hk u
  unfold Oper.wp
  simp [execOp, hop, hm, hx, hv, hrun, Result.andThen]
  exact hK' _ _ (hQ w' r1 r2)
variable [DecidableEq K] in
theorem wpList_map_del (w : World) {ops : Array Oper} {rest : List Oper} {o : Oper} {a : Act} {Q : Exit → Act → World → Prop}
    (hg : o.guard = none) (m x : Operand) (t : TypeId) (hop : o.op = Op.call { callee := Callee.builtin Builtin.delete, args := #[m, x], argTypes := #[t, kt] })
    (e : TypeId) (hK : KeyOf P kt lit val ok) (ht : P.underlying t = some (.map kt e)) (b c : Nat) (f : K → Option Value) (hm : a.eval m = .map (some b)) (hown : MapAt P kt lit w b c f) (k : K) (hk : ok k) (hx : a.eval x = val k)
    (hQ : ∀ w', MapAt P kt lit w' b (if (f k).isSome then c - 1 else c) (upd f k none) → w.grownBy w' (some b) → wpList P ops Q rest (a.put o.dst (.tuple #[])) w') : wpList P ops Q (o :: rest) a w := by
  refine wpList_plain hg fun K' hK' => ?_
  obtain ⟨w', hrun, r1, r2⟩ := hown.del hK ht k hk o.type
  unfold Oper.wp
  simp [execOp, hop, resolve, invoke, builtin, hm, hx, hrun, Result.andThen]
  exact hK' _ _ (hQ w' r1 r2)
theorem wpList_map_len (w : World) {ops : Array Oper} {rest : List Oper} {o : Oper} {a : Act} {Q : Exit → Act → World → Prop}
    (hg : o.guard = none) (m : Operand) (t : TypeId) (hop : o.op = Op.call { callee := Callee.builtin Builtin.len, args := #[m], argTypes := #[t] })
    (e : TypeId) (ht : P.underlying t = some (.map kt e)) (b c : Nat) (f : K → Option Value) (hm : a.eval m = .map (some b)) (hown : MapAt P kt lit w b c f)
    (hQ : wpList P ops Q rest (a.put o.dst (.int .i64 c)) w) : wpList P ops Q (o :: rest) a w := by
  refine wpList_plain hg fun K' hK' => ?_
  unfold Oper.wp
  simp [execOp, hop, resolve, invoke, builtin, hm, hown.len ht o.type, Result.andThen]
  exact hK' _ _ hQ
end
/-- Keys that are numbers. -/
def litI (n : Nat) : Lit := .int .i64 n
def valI (n : Nat) : Value := .int .i64 n
theorem keyI {P : Program} {kt : TypeId} (h : P.underlying kt = some (.int .i64)) : KeyOf P kt litI valI (fun n => n ≤ 1000000) :=
  ⟨int_keyed h, fun a b e => by simp [litI] at e; omega, fun _ => trivial, fun a ha => keyOf_int_mk h (by simp [Lit.wf, IntKind.min, IntKind.max, IntKind.signed, IntKind.bits]; omega)⟩
/-- Keys that are texts. -/
def litS (l : List UInt8) : Lit := .string l
theorem keyS {P : Program} {kt : TypeId} (h : P.underlying kt = some .string) : KeyOf P kt litS S (fun l => l.length ≤ 1000000) :=
  ⟨string_keyed h, fun a b e => by simpa [litS] using e, fun _ => trivial, fun a ha => by
    have := WideMaps.keyOf_string_mk (P := P) h (s := bs a) (by simp [bs, maxLen, ByteArray.size]; omega)
    exact this⟩
end Go.Esc
