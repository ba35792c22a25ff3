/- A slice of letters (four numbers and a text each) as an argument. -/
import Derived.Test.YtoakccknimoogaaGreatPrs
import Derived.Deep.Slices
namespace Go.Esc
open Go.RowKit
structure OpW where
 kind : Int
 now : Int
 pos : Int
 val : Int
 body : Bs
def OpW.vs (o : OpW) : List Value := [.int .i64 o.kind, .int .i64 o.now, .int .i64 o.pos, .int .u8 o.val, S o.body]
def OpW.ok (o : OpW) : Prop := (Lit.int .i64 o.kind).wf = true ∧ (Lit.int .i64 o.now).wf = true ∧ (Lit.int .i64 o.pos).wf = true ∧ (Lit.int .u8 o.val).wf = true ∧ o.body.length ≤ maxLen
def IsOps5 (w : World) (a : Option Addr) (len cap : Nat) : Prop :=
 (a = none ∧ len = 0 ∧ cap = 0) ∨ ∃ x, a = some x ∧ len ≤ cap ∧ cap ≤ maxLen ∧ ∀ i, i < len → ∃ o : OpW, o.ok ∧ ∀ j u, o.vs[j]? = some u → w.cell? (x.add (i * 5 + j)) = some u
structure Ops5 (w : World) (a : Option Addr) (len : Nat) (L : List OpW) : Prop where
 length : L.length = len
 none : a = none → len = 0
 cell : ∀ x, a = some x → ∀ i (h : i < L.length), x.block < w.heap.size ∧ ∀ j u, (L[i]).vs[j]? = some u → w.cell? (x.add (i * 5 + j)) = some u
 ok : ∀ o ∈ L, o.ok
theorem IsOps5.ops {w : World} {a : Option Addr} {len cap : Nat} (h : IsOps5 w a len cap) : ∃ L, Ops5 w a len L ∧ len ≤ maxLen := by
 rcases h with ⟨rfl, rfl, rfl⟩ | ⟨x, rfl, hl, hm, hc⟩
 · exact ⟨[], ⟨rfl, fun _ => rfl, fun x hx => (by cases hx), fun y hy => (by cases hy)⟩, by unfold maxLen; omega⟩
 · have step : ∀ n, n ≤ len → ∃ L : List OpW, L.length = n ∧ (∀ i (h : i < L.length), x.block < w.heap.size ∧ ∀ j u, (L[i]).vs[j]? = some u → w.cell? (x.add (i * 5 + j)) = some u) ∧ ∀ y ∈ L, y.ok := by
    intro n
    induction n with
    | zero => intro _; exact ⟨[], rfl, fun i h => (by simp at h), fun y hy => (by cases hy)⟩
    | succ n ih =>
      intro hn
      obtain ⟨L, h1, h2, h3⟩ := ih (by omega)
      obtain ⟨o, ho, hoc⟩ := hc n (by omega)
      have hb := cellB_lt (hoc 0 _ rfl)
      rw [addB_block] at hb
      refine ⟨L ++ [o], by simp [h1], fun i hi => ?_, fun y hy => ?_⟩
      · by_cases hi2 : i < L.length
        · rw [List.getElem_append_left hi2]
          exact h2 i hi2
        · obtain rfl : i = n := by simp at hi; omega
          subst h1
          simp only [List.getElem_concat_length]
          exact ⟨hb, hoc⟩
      · rcases List.mem_append.1 hy with h4 | h4
        · exact h3 y h4
        · simp at h4
          subst h4
          exact ho
   obtain ⟨L, h1, h2, h3⟩ := step len (Nat.le_refl _)
   exact ⟨L, ⟨h1, fun h => (by cases h), fun y hy => (by cases hy; exact h2), h3⟩, by omega⟩
theorem Ops5.keep {w w' : World} {a : Option Addr} {len : Nat} {L : List OpW} (h : Ops5 w a len L) (hb : Below w.heap.size w w') : Ops5 w' a len L := by
 refine ⟨h.length, h.none, fun x hx i hi => ?_, h.ok⟩
 obtain ⟨h3, h1⟩ := h.cell x hx i hi
 exact ⟨Nat.lt_of_lt_of_le h3 hb.size, fun j u hu => by rw [Below.cell hb (p := x.add (i * 5 + j)) (by rw [addB_block]; exact h3)]; exact h1 j u hu⟩
/-- A whole value read where each of its cells is known. -/
theorem run_load_at5 {P : Program} {w : World} {x : Addr} {vs : List Value} (h : ∀ j u, vs[j]? = some u → w.cell? (x.add j) = some u) (ty : TypeId) {d : TypeDesc}
 (hu : P.underlying ty = some d) (hd : (match d with | .struct _ | .array _ _ => true | _ => false) = true) (hi : (P.info? ty).map (·.size) = some vs.length) :
 (loadVar ty x).run P w = .ok (.agg vs.toArray) w := by
 have hl : (loadCells x vs.length).run P w = .ok vs.toArray w := run_loadCells_list (P := P) w x _ h
 cases hq : P.info? ty with
 | none => simp [hq] at hi
 | some i =>
   have hs : i.size = vs.length := by simpa [hq] using hi
   have hagg : (isAgg ty).run P w = .ok true w := by
    unfold isAgg
    rw [Sem.run_bind, run_underlying hu w]
    cases d <;> simp_all
   simp [loadVar, Sem.run_bind, hagg, sizeOf, typeInfo, hq, hs, hl]
theorem Ops5.load {P : Program} {w : World} {x : Addr} {len : Nat} {L : List OpW} (h : Ops5 w (some x) len L) (i : Nat) (hi : i < L.length) (ty : TypeId) {d : TypeDesc}
 (hu : P.underlying ty = some d) (hd : (match d with | .struct _ | .array _ _ => true | _ => false) = true) (hz : (P.info? ty).map (·.size) = some 5) :
 (loadVar ty (x.add (i * 5))).run P w = .ok (.agg (L[i]).vs.toArray) w :=
 run_load_at5 (fun j u hu => by rw [Go.Deep.add_add]; exact (h.cell x rfl i hi).2 j u hu) ty hu hd hz
theorem wpList_load_at5 {P : Program} {w : World} {ops : Array Oper} {rest : List Oper} {o : Oper} {a : Act} {Q : Exit → Act → World → Prop} (hgd : o.guard = none) (ty : TypeId) (y : Operand) (ho : o.op = .load ty y)
 (x : Addr) (v : Value) (hx : a.eval y = .pointer (some x)) (hl : (loadVar ty x).run P w = .ok v w)
 (h : wpList P ops Q rest (a.put o.dst v) w) : wpList P ops Q (o :: rest) a w := by
 refine wpList_plain hgd fun K hK => ?_
 unfold Oper.wp execOp
 simp only [ho, hx, Instr.loadAt, Instr.sureAddr, Sem.run_bind, Sem.run_pure, Result.andThen_ok, hl]
 exact hK _ _ h
section
open Go.ChangeShapes Go.WideShapes
variable {H : Type} {enc : TypeId × Value → H} {P : Program} {w : World} {base : Nat} {spare : Nat → Bool} {held : Bool}
/-- The argument, opened. -/
theorem open_ops5 {t e ti tu ts : TypeId} {f0 f1 f2 f3 f4 : Field} {fuel : Nat} {a : Option Addr} {len cap : Nat} {x : DataW H × List MemPlace} (ht : P.underlying t = some (.slice e)) (he : P.underlying e = some (.struct #[f0, f1, f2, f3, f4]))
 (hi : P.underlying ti = some (.int .i64)) (hu : P.underlying tu = some (.int .u8)) (hs : P.underlying ts = some .string) (ce : P.cellsOf e = 5) (ci : P.cellsOf ti = 1) (cu : P.cellsOf tu = 1) (cs : P.cellsOf ts = 1)
 (o0 : (f0.offset, f0.type) = (0, ti)) (o1 : (f1.offset, f1.type) = (1, ti)) (o2 : (f2.offset, f2.type) = (2, ti)) (o3 : (f3.offset, f3.type) = (3, tu)) (o4 : (f4.offset, f4.type) = (4, ts))
 (h : DataW.trod enc P w base spare held fuel t [.slice a len cap] = some x) : IsOps5 w a len cap := by
 simp only [Prod.mk.injEq] at o0 o1 o2 o3 o4
 rcases Go.Deep.open_slice ht h with ⟨h0, -⟩ | ⟨ad, l, c, m, n, D, Pl, h0, hb, hl, hm, hmm, -, hx⟩
 · simp at h0
   exact .inl h0
 · simp at h0
   obtain ⟨rfl, rfl, rfl⟩ := h0
   refine .inr ⟨ad, rfl, hl, hm, fun i hil => ?_⟩
   have him : i < m := by rw [hmm]; split <;> omega
   obtain ⟨cs', h1, h2⟩ := hx i him
   rw [ce] at h1
   obtain ⟨_, hlen, hcell⟩ := World.cells?_some h1
   obtain ⟨xs, k, hk, hxy, _, hxl, hf⟩ := DataW.trod_struct he h2
   match xs, hxl, cs', hlen with
   | [y0, y1, y2, y3, y4], _, [v0, v1, v2, v3, v4], _ =>
     have g0 := hf 0 f0 rfl
     have g1 := hf 1 f1 rfl
     have g2 := hf 2 f2 rfl
     have g3 := hf 3 f3 rfl
     have g4 := hf 4 f4 rfl
     rw [o0.1, o0.2, ci] at g0
     rw [o1.1, o1.2, ci] at g1
     rw [o2.1, o2.2, ci] at g2
     rw [o3.1, o3.2, cu] at g3
     rw [o4.1, o4.2, cs] at g4
     obtain ⟨n0, q0, -, z0⟩ := DataW.trod_int hi g0
     obtain ⟨n1, q1, -, z1⟩ := DataW.trod_int hi g1
     obtain ⟨n2, q2, -, z2⟩ := DataW.trod_int hi g2
     obtain ⟨n3, q3, -, z3⟩ := DataW.trod_int hu g3
     obtain ⟨s4, q4, -, z4⟩ := DataW.trod_string hs g4
     simp at q0 q1 q2 q3 q4
     subst q0 q1 q2 q3 q4
     refine ⟨⟨n0, n1, n2, n3, s4.data.toList⟩, ⟨z0, z1, z2, z3, by rw [Array.length_toList]; exact z4⟩, fun j u hju => ?_⟩
     have e4 : (Value.string s4) = S s4.data.toList := by show Value.string s4 = .string (bs s4.data.toList); rw [← bs_eta]
     rw [e4] at hcell
     have hj : j < 5 := (List.getElem?_eq_some_iff.1 hju).1
     have := hcell j hj
     rw [Go.Deep.add_add] at this
     rw [this]
     rw [← hju]
     match j, hj with
     | 0, _ => rfl
     | 1, _ => rfl
     | 2, _ => rfl
     | 3, _ => rfl
     | 4, _ => rfl
end
end Go.Esc
