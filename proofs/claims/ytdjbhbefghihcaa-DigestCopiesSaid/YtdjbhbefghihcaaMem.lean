/- Whole rows read and written in a walk. -/
import Derived.Test.YtdjbhbefghihcaaBase
import Derived.Laws.IdiomCopy
import Derived.Laws.Rows
import Derived.Laws.Tables
namespace Go.Esc
open Go Go.RowKit
/-- w' is w but for the cells of block g. -/
structure Chg (g : Nat) (w w' : World) : Prop where
  os : w'.os = w.os
  tape : w'.tape = w.tape
  output : w'.output = w.output
  size : w'.heap.size = w.heap.size
  block : ∀ k, k ≠ g → w'.heap[k]? = w.heap[k]?
theorem Chg.refl (g : Nat) (w : World) : Chg g w w := ⟨rfl, rfl, rfl, rfl, fun _ _ => rfl⟩
theorem Chg.set (w : World) (g o : Nat) (v : Value) : Chg g w (w.setCell ⟨g, o, none⟩ v) :=
  ⟨rfl, rfl, rfl, by simp [World.setCell], fun k hk => Below.heap_setCell _ _ _ _ hk⟩
theorem Chg.trans {g : Nat} {a b c : World} (h : Chg g a b) (k : Chg g b c) : Chg g a c :=
  ⟨k.os.trans h.os, k.tape.trans h.tape, k.output.trans h.output, k.size.trans h.size, fun i hi => (k.block i hi).trans (h.block i hi)⟩
theorem Chg.setCells (g : Nat) : ∀ (vs : List Value) (o : Nat) (w : World), Chg g w (w.setCells g o vs)
  | [], _, w => Chg.refl g w
  | v :: r, o, w => (Chg.set w g o v).trans (Chg.setCells g r (o+1) _)
theorem Chg.below {B g : Nat} {a w w' : World} (h : Below B a w) (k : Chg g w w') (hg : B ≤ g) : Below B a w' :=
  h.trans ⟨k.os, k.tape, k.output, Nat.le_of_eq k.size.symm, fun i hi => k.block i (by omega)⟩
theorem Chg.row {g k : Nat} {w w' : World} (h : Chg g w w') {e : TypeId} {xs : List Value} (hr : Row w k e xs) (hk : k ≠ g) : Row w' k e xs := hr.other (h.block k hk)
/-- xs with vs from place o on. -/
def splice (xs : List Value) (o : Nat) : List Value → List Value
  | [] => xs
  | v :: r => splice (xs.set o v) (o + 1) r
theorem splice_length (vs : List Value) : ∀ (xs : List Value) (o : Nat), (splice xs o vs).length = xs.length := by
  induction vs with
  | nil => intro _ _; rfl
  | cons v r ih => intro xs o; rw [splice, ih, List.length_set]
theorem splice_eq (vs : List Value) : ∀ (xs : List Value) (o : Nat), o + vs.length ≤ xs.length → splice xs o vs = xs.take o ++ vs ++ xs.drop (o + vs.length) := by
  induction vs with
  | nil => intro xs o h; simp [splice]
  | cons v r ih =>
    intro xs o h
    simp only [List.length_cons] at h
    have ho : o < xs.length := by omega
    have e1 : (xs.set o v).take (o+1) = xs.take o ++ [v] := by
      apply List.ext_getElem?
      intro k
      simp only [List.getElem?_take, List.getElem?_append, List.getElem?_set, List.length_take]
      by_cases h1 : k < o
      · simp [h1, show k < o + 1 by omega, show o ≠ k by omega, show k < min o xs.length by omega]
      · by_cases h2 : k = o
        · subst h2; simp [ho, show min k xs.length = k by omega]
        · obtain ⟨j, rfl⟩ : ∃ j, k = o + 1 + j := ⟨k - o - 1, by omega⟩
          rw [if_neg (by omega), if_neg (by omega)]; simp [show min o xs.length = o by omega, show o + 1 + j - o = j + 1 by omega]
    have e2 : (xs.set o v).drop (o + 1 + r.length) = xs.drop (o + (r.length + 1)) := by
      apply List.ext_getElem?
      intro k
      simp only [List.getElem?_drop]
      rw [List.getElem?_set_ne (by omega), show o + 1 + r.length + k = o + (r.length + 1) + k by omega]
    rw [splice, ih _ _ (by simp; omega), e1, e2, List.length_cons]; simp
theorem splice_all {xs vs : List Value} (h : vs.length = xs.length) : splice xs 0 vs = vs := by
  rw [splice_eq _ _ _ (by omega)]; simp [h]
theorem Row.setCells {g : Nat} {e : TypeId} : ∀ (vs : List Value) (o : Nat) (w : World) (xs : List Value), Row w g e xs → Row (w.setCells g o vs) g e (splice xs o vs)
  | [], _, _, _, h => h
  | v :: r, o, _, _, h => Row.setCells r (o+1) _ _ (h.set o v)
theorem take_drop_get {α : Type} (xs : List α) (o n j : Nat) (v : α) (h : ((xs.drop o).take n)[j]? = some v) : xs[o + j]? = some v := by
  rw [List.getElem?_take] at h
  split at h
  · rwa [List.getElem?_drop] at h
  · cases h
/-- A whole value read out of a row. -/
theorem Row.load {P : Program} {w : World} {g : Nat} {e : TypeId} {xs : List Value} (h : Row w g e xs) (ty : TypeId) {d : TypeDesc} (o n : Nat)
    (hu : P.underlying ty = some d) (hd : (match d with | .struct _ | .array _ _ => true | _ => false) = true) (hi : (P.info? ty).map (·.size) = some n) (hn : o + n ≤ xs.length) :
    (loadVar ty ⟨g, o, none⟩).run P w = .ok (.agg ((xs.drop o).take n).toArray) w := by
  have hlen : ((xs.drop o).take n).length = n := by simp; omega
  have hl : (loadCells ⟨g, o, none⟩ ((xs.drop o).take n).length).run P w = .ok ((xs.drop o).take n).toArray w :=
    run_loadCells_list (P := P) w ⟨g, o, none⟩ _ (fun j v hv => by
      have hadd : (⟨g, o, none⟩ : Addr).add j = ⟨g, o + j, none⟩ := by unfold Addr.add; split <;> simp_all
      have hv2 := take_drop_get _ _ _ _ _ hv
      obtain ⟨hj, rfl⟩ := List.getElem?_eq_some_iff.1 hv2
      rw [hadd, h.cell _ hj])
  cases hq : P.info? ty with
  | none => simp [hq] at hi
  | some i =>
    have hs : i.size = n := by simpa [hq] using hi
    have hagg : (isAgg ty).run P w = .ok true w := by
      unfold isAgg
      rw [Sem.run_bind, run_underlying hu w]
      cases d <;> simp_all
    rw [hlen] at hl
    simp [loadVar, Sem.run_bind, hagg, sizeOf, typeInfo, hq, hs, hl]
theorem Row.loadAll {P : Program} {w : World} {g : Nat} {e : TypeId} {xs : List Value} (h : Row w g e xs) (ty : TypeId) {d : TypeDesc}
    (hu : P.underlying ty = some d) (hd : (match d with | .struct _ | .array _ _ => true | _ => false) = true) (hi : (P.info? ty).map (·.size) = some xs.length) :
    (loadVar ty ⟨g, 0, none⟩).run P w = .ok (.agg xs.toArray) w := by
  have := h.load (P := P) ty 0 xs.length hu hd hi (by omega)
  simpa using this
/-- A whole value written into a row. -/
theorem Row.store {P : Program} {w : World} {g : Nat} {e : TypeId} {xs : List Value} (h : Row w g e xs) (ty : TypeId) (o : Nat) (vs : List Value)
    (hi : (P.info? ty).map (·.size) = some vs.length) (hn : o + vs.length ≤ xs.length) (h1 : vs.all (·.oneCell') = true) :
    (storeVar ty ⟨g, o, none⟩ (.agg vs.toArray)).run P w = .ok () (w.setCells g o vs) := by
  have := run_storeCells_cells (P := P) g o vs 0 w (fun j hj => by rw [Nat.add_zero, h.cell (o + j) (by omega)]; rfl) (fun j hj => by rw [Nat.add_zero]; exact h.frozen (o + j) (by omega)) (fun v hv => List.all_eq_true.1 h1 v hv)
  cases hq : P.info? ty with
  | none => simp [hq] at hi
  | some i =>
    have hs : vs.length = i.size := by simp [hq] at hi; omega
    simp [storeVar, sizeOf, typeInfo, hq, Value.cells, hs, this]
section
variable {P : Program} {ops : Array Oper} {rest : List Oper} {o : Oper} {a : Act} {w : World} {Q : Exit → Act → World → Prop}
theorem wpList_store_part (hgd : o.guard = none) (ty : TypeId) (x y : Operand) (ho : o.op = .store ty x y)
    (g off : Nat) (vs : List Value) (hx : a.eval x = .pointer (some ⟨g, off, none⟩)) (hy : a.eval y = .agg vs.toArray)
    {e : TypeId} {xs : List Value} (hr : Row w g e xs) (hi : (P.info? ty).map (·.size) = some vs.length)
    (hn : off + vs.length ≤ xs.length) (h1 : vs.all (·.oneCell') = true)
    (h : ∀ w', Row w' g e (splice xs off vs) → Chg g w w' → wpList P ops Q rest (a.put o.dst undef) w') : wpList P ops Q (o :: rest) a w := by
  refine wpList_plain hgd fun K hK => ?_
  unfold Oper.wp execOp
  simp only [ho, hx, hy, Instr.storeAt, Instr.sureAddr, Sem.run_bind, Sem.run_pure, Result.andThen_ok, hr.store ty off vs hi hn h1]
  exact hK _ _ (h _ (Row.setCells vs off w xs hr) (Chg.setCells g vs off w))
theorem wpList_load_part (hgd : o.guard = none) (ty : TypeId) (x : Operand) (ho : o.op = .load ty x)
    (g off n : Nat) (hx : a.eval x = .pointer (some ⟨g, off, none⟩)) {d : TypeDesc}
    {e : TypeId} {xs : List Value} (hr : Row w g e xs) (hu : P.underlying ty = some d) (hd : (match d with | .struct _ | .array _ _ => true | _ => false) = true) (hi : (P.info? ty).map (·.size) = some n)
    (hn : off + n ≤ xs.length)
    (h : wpList P ops Q rest (a.put o.dst (.agg ((xs.drop off).take n).toArray)) w) : wpList P ops Q (o :: rest) a w := by
  refine wpList_plain hgd fun K hK => ?_
  unfold Oper.wp execOp
  simp only [ho, hx, Instr.loadAt, Instr.sureAddr, Sem.run_bind, Sem.run_pure, Result.andThen_ok, hr.load ty off n hu hd hi hn]
  exact hK _ _ h
theorem results_row {fn : Func} {p : Tmp} {ty : TypeId} (h : fn.results = #[.cell p ty]) (tmps : Array Value) (g : Nat) {e : TypeId} {xs : List Value} {d : TypeDesc}
    (hp : tmps.getD p undef = .pointer (some ⟨g, 0, none⟩)) (hr : Row w g e xs)
    (hu : P.underlying ty = some d) (hd : (match d with | .struct _ | .array _ _ => true | _ => false) = true) (hi : (P.info? ty).map (·.size) = some xs.length) :
    (results fn tmps).run P w = .ok (.agg xs.toArray) w := by
  have hp' : tmps[p]?.getD undef = .pointer (some ⟨g, 0, none⟩) := by simpa using hp
  simp [results, h, hp', asAddr, hr.loadAll ty hu hd hi]
theorem results_cell_eq {fn : Func} {p : Tmp} {ty : TypeId} (h : fn.results = #[.cell p ty]) (tmps : Array Value) (g : Nat) {v : Value} {w w1 : World}
    (hp : tmps.getD p undef = .pointer (some ⟨g, 0, none⟩)) (hl : (loadVar ty ⟨g, 0, none⟩).run P w = .ok v w1) :
    (results fn tmps).run P w = .ok v w1 := by
  have hp' : tmps[p]?.getD undef = .pointer (some ⟨g, 0, none⟩) := by simpa using hp
  simp [results, h, hp', asAddr, hl]
theorem wpList_built (hgd : o.guard = none) (t : TypeId) (parts : Array (Nat × Operand)) (ho : o.op = .build t parts) (l : List Value)
    (hf : P.built t (parts.map fun (i, x) => (i, a.eval x)).toList = some l.toArray)
    (h : wpList P ops Q rest (a.put o.dst (.agg l.toArray)) w) : wpList P ops Q (o :: rest) a w := by
  refine wpList_build hgd t parts ho (by rw [hf]; rfl) ?_
  rw [hf]; exact h
theorem wpList_box (hgd : o.guard = none) (t : TypeId) (x : Operand) (ho : o.op = .box t x) (l : List Value) (hx : a.eval x = .agg l.toArray)
    (h : ∀ w', Row w' w.heap.size t l → Pu w w' → w'.heap.size = w.heap.size + 1 → wpList P ops Q rest (a.put o.dst (.pointer (some ⟨w.heap.size, 0, none⟩))) w') : wpList P ops Q (o :: rest) a w := by
  refine wpList_plain hgd fun K hK => ?_
  unfold Oper.wp execOp
  simp only [ho, hx, Sem.run_bind, Instr.box, newVar, newRow, run_newObj_alloc, Sem.run_pure, Result.andThen_ok, Value.cells]
  exact hK _ _ (h _ (Row.new w l.toArray t) (Pu.alloc (Below.refl _ _) _) (by simp))
/-- 'box': a value of several cells in a block of its own. -/
theorem box_row (w : World) (vs : List Value) (e : TypeId) : Row (w.alloc (.cells vs.toArray e)) w.heap.size e vs := Row.new w vs.toArray e
end
end Go.Esc
