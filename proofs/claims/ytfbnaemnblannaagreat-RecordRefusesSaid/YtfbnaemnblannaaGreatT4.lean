/- Whole rows read and written in a walk. The schedule of a block. Package mac: Same; counters that count as one. -/
import Derived.Test.YtfbnaemnblannaaGreatT3
import Derived.Laws.IdiomCopy
import Derived.Laws.Rows
import Derived.Laws.Tables
set_option linter.unusedSimpArgs false
set_option linter.unusedVariables false
namespace Go.Esc
open Go Go.RowKit
/-- w' is w but for the cells of block g. -/
structure Chg (g : Nat) (w w' : World) : Prop where
  os : w'.os = w.os
  tape : w'.tape = w.tape
  output : w'.output = w.output
  size : w'.heap.size = w.heap.size
  block : ∀ k, k ≠ g → w'.heap[k]? = w.heap[k]?
theorem Chg.refl (g : Nat) (w : World) : Chg g w w := ⟨rfl, rfl, rfl, rfl, fun _ _ => rfl⟩
theorem Chg.set (w : World) (g o : Nat) (v : Value) : Chg g w (w.setCell ⟨g, o, none⟩ v) :=
  ⟨rfl, rfl, rfl, by simp [World.setCell], fun k hk => Below.heap_setCell _ _ _ _ hk⟩
theorem Chg.trans {g : Nat} {a b c : World} (h : Chg g a b) (k : Chg g b c) : Chg g a c :=
  ⟨k.os.trans h.os, k.tape.trans h.tape, k.output.trans h.output, k.size.trans h.size, fun i hi => (k.block i hi).trans (h.block i hi)⟩
theorem Chg.setCells (g : Nat) : ∀ (vs : List Value) (o : Nat) (w : World), Chg g w (w.setCells g o vs)
  | [], _, w => Chg.refl g w
  | v :: r, o, w => (Chg.set w g o v).trans (Chg.setCells g r (o+1) _)
theorem Chg.below {B g : Nat} {a w w' : World} (h : Below B a w) (k : Chg g w w') (hg : B ≤ g) : Below B a w' :=
  h.trans ⟨k.os, k.tape, k.output, Nat.le_of_eq k.size.symm, fun i hi => k.block i (by omega)⟩
theorem Chg.row {g k : Nat} {w w' : World} (h : Chg g w w') {e : TypeId} {xs : List Value} (hr : Row w k e xs) (hk : k ≠ g) : Row w' k e xs := hr.other (h.block k hk)
/-- xs with vs from place o on. -/
def splice (xs : List Value) (o : Nat) : List Value → List Value
  | [] => xs
  | v :: r => splice (xs.set o v) (o + 1) r
theorem splice_length (vs : List Value) : ∀ (xs : List Value) (o : Nat), (splice xs o vs).length = xs.length := by
  induction vs with
  | nil => intro _ _; rfl
  | cons v r ih => intro xs o; rw [splice, ih, List.length_set]
theorem splice_eq (vs : List Value) : ∀ (xs : List Value) (o : Nat), o + vs.length ≤ xs.length → splice xs o vs = xs.take o ++ vs ++ xs.drop (o + vs.length) := by
  induction vs with
  | nil => intro xs o h; simp [splice]
  | cons v r ih =>
    intro xs o h
    simp only [List.length_cons] at h
    have ho : o < xs.length := by omega
    have e1 : (xs.set o v).take (o+1) = xs.take o ++ [v] := by
      apply List.ext_getElem?
      intro k
      simp only [List.getElem?_take, List.getElem?_append, List.getElem?_set, List.length_take]
      by_cases h1 : k < o
      · simp [h1, show k < o + 1 by omega, show o ≠ k by omega, show k < min o xs.length by omega]
      · by_cases h2 : k = o
        · subst h2; simp [ho, show min k xs.length = k by omega]
        · obtain ⟨j, rfl⟩ : ∃ j, k = o + 1 + j := ⟨k - o - 1, by omega⟩
          rw [if_neg (by omega), if_neg (by omega)]; simp [show min o xs.length = o by omega, show o + 1 + j - o = j + 1 by omega]
    have e2 : (xs.set o v).drop (o + 1 + r.length) = xs.drop (o + (r.length + 1)) := by
      apply List.ext_getElem?
      intro k
      simp only [List.getElem?_drop]
      rw [List.getElem?_set_ne (by omega), show o + 1 + r.length + k = o + (r.length + 1) + k by omega]
    rw [splice, ih _ _ (by simp; omega), e1, e2, List.length_cons]; simp
theorem splice_all {xs vs : List Value} (h : vs.length = xs.length) : splice xs 0 vs = vs := by
  rw [splice_eq _ _ _ (by omega)]; simp [h]
theorem Row.setCells {g : Nat} {e : TypeId} : ∀ (vs : List Value) (o : Nat) (w : World) (xs : List Value), Row w g e xs → Row (w.setCells g o vs) g e (splice xs o vs)
  | [], _, _, _, h => h
  | v :: r, o, _, _, h => Row.setCells r (o+1) _ _ (h.set o v)
theorem take_drop_get {α : Type} (xs : List α) (o n j : Nat) (v : α) (h : ((xs.drop o).take n)[j]? = some v) : xs[o + j]? = some v := by
  rw [List.getElem?_take] at h
  split at h
  · rwa [List.getElem?_drop] at h
  · cases h
/-- A whole value read out of a row. -/
theorem Row.load {P : Program} {w : World} {g : Nat} {e : TypeId} {xs : List Value} (h : Row w g e xs) (ty : TypeId) {d : TypeDesc} (o n : Nat)
    (hu : P.underlying ty = some d) (hd : (match d with | .struct _ | .array _ _ => true | _ => false) = true) (hi : (P.info? ty).map (·.size) = some n) (hn : o + n ≤ xs.length) :
    (loadVar ty ⟨g, o, none⟩).run P w = .ok (.agg ((xs.drop o).take n).toArray) w := by
  have hlen : ((xs.drop o).take n).length = n := by simp; omega
  have hl : (loadCells ⟨g, o, none⟩ ((xs.drop o).take n).length).run P w = .ok ((xs.drop o).take n).toArray w :=
    run_loadCells_list (P := P) w ⟨g, o, none⟩ _ (fun j v hv => by
      have hadd : (⟨g, o, none⟩ : Addr).add j = ⟨g, o + j, none⟩ := by unfold Addr.add; split <;> simp_all
      have hv2 := take_drop_get _ _ _ _ _ hv
      obtain ⟨hj, rfl⟩ := List.getElem?_eq_some_iff.1 hv2
      rw [hadd, h.cell _ hj])
  cases hq : P.info? ty with
  | none => simp [hq] at hi
  | some i =>
    have hs : i.size = n := by simpa [hq] using hi
    have hagg : (isAgg ty).run P w = .ok true w := by
      unfold isAgg
      rw [Sem.run_bind, run_underlying hu w]
      cases d <;> simp_all
    rw [hlen] at hl
    simp [loadVar, Sem.run_bind, hagg, sizeOf, typeInfo, hq, hs, hl]
theorem Row.loadAll {P : Program} {w : World} {g : Nat} {e : TypeId} {xs : List Value} (h : Row w g e xs) (ty : TypeId) {d : TypeDesc}
    (hu : P.underlying ty = some d) (hd : (match d with | .struct _ | .array _ _ => true | _ => false) = true) (hi : (P.info? ty).map (·.size) = some xs.length) :
    (loadVar ty ⟨g, 0, none⟩).run P w = .ok (.agg xs.toArray) w := by
  have := h.load (P := P) ty 0 xs.length hu hd hi (by omega)
  simpa using this
/-- A whole value written into a row. -/
theorem Row.store {P : Program} {w : World} {g : Nat} {e : TypeId} {xs : List Value} (h : Row w g e xs) (ty : TypeId) (o : Nat) (vs : List Value)
    (hi : (P.info? ty).map (·.size) = some vs.length) (hn : o + vs.length ≤ xs.length) (h1 : vs.all (·.oneCell') = true) :
    (storeVar ty ⟨g, o, none⟩ (.agg vs.toArray)).run P w = .ok () (w.setCells g o vs) := by
  have := run_storeCells_cells (P := P) g o vs 0 w (fun j hj => by rw [Nat.add_zero, h.cell (o + j) (by omega)]; rfl) (fun j hj => by rw [Nat.add_zero]; exact h.frozen (o + j) (by omega)) (fun v hv => List.all_eq_true.1 h1 v hv)
  cases hq : P.info? ty with
  | none => simp [hq] at hi
  | some i =>
    have hs : vs.length = i.size := by simp [hq] at hi; omega
    simp [storeVar, sizeOf, typeInfo, hq, Value.cells, hs, this]
section
variable {P : Program} {ops : Array Oper} {rest : List Oper} {o : Oper} {a : Act} {w : World} {Q : Exit → Act → World → Prop}
theorem wpList_store_part (hgd : o.guard = none) (ty : TypeId) (x y : Operand) (ho : o.op = .store ty x y)
    (g off : Nat) (vs : List Value) (hx : a.eval x = .pointer (some ⟨g, off, none⟩)) (hy : a.eval y = .agg vs.toArray)
    {e : TypeId} {xs : List Value} (hr : Row w g e xs) (hi : (P.info? ty).map (·.size) = some vs.length)
    (hn : off + vs.length ≤ xs.length) (h1 : vs.all (·.oneCell') = true)
    (h : ∀ w', Row w' g e (splice xs off vs) → Chg g w w' → wpList P ops Q rest (a.put o.dst undef) w') : wpList P ops Q (o :: rest) a w := by
  refine wpList_plain hgd fun K hK => ?_
  unfold Oper.wp execOp
  simp only [ho, hx, hy, Instr.storeAt, Instr.sureAddr, Sem.run_bind, Sem.run_pure, Result.andThen_ok, hr.store ty off vs hi hn h1]
  exact hK _ _ (h _ (Row.setCells vs off w xs hr) (Chg.setCells g vs off w))
theorem wpList_load_part (hgd : o.guard = none) (ty : TypeId) (x : Operand) (ho : o.op = .load ty x)
    (g off n : Nat) (hx : a.eval x = .pointer (some ⟨g, off, none⟩)) {d : TypeDesc}
    {e : TypeId} {xs : List Value} (hr : Row w g e xs) (hu : P.underlying ty = some d) (hd : (match d with | .struct _ | .array _ _ => true | _ => false) = true) (hi : (P.info? ty).map (·.size) = some n)
    (hn : off + n ≤ xs.length)
    (h : wpList P ops Q rest (a.put o.dst (.agg ((xs.drop off).take n).toArray)) w) : wpList P ops Q (o :: rest) a w := by
  refine wpList_plain hgd fun K hK => ?_
  unfold Oper.wp execOp
  simp only [ho, hx, Instr.loadAt, Instr.sureAddr, Sem.run_bind, Sem.run_pure, Result.andThen_ok, hr.load ty off n hu hd hi hn]
  exact hK _ _ h
theorem results_row {fn : Func} {p : Tmp} {ty : TypeId} (h : fn.results = #[.cell p ty]) (tmps : Array Value) (g : Nat) {e : TypeId} {xs : List Value} {d : TypeDesc}
    (hp : tmps.getD p undef = .pointer (some ⟨g, 0, none⟩)) (hr : Row w g e xs)
    (hu : P.underlying ty = some d) (hd : (match d with | .struct _ | .array _ _ => true | _ => false) = true) (hi : (P.info? ty).map (·.size) = some xs.length) :
    (results fn tmps).run P w = .ok (.agg xs.toArray) w := by
  have hp' : tmps[p]?.getD undef = .pointer (some ⟨g, 0, none⟩) := by simpa using hp
  simp [results, h, hp', asAddr, hr.loadAll ty hu hd hi]
theorem results_cell_eq {fn : Func} {p : Tmp} {ty : TypeId} (h : fn.results = #[.cell p ty]) (tmps : Array Value) (g : Nat) {v : Value} {w w1 : World}
    (hp : tmps.getD p undef = .pointer (some ⟨g, 0, none⟩)) (hl : (loadVar ty ⟨g, 0, none⟩).run P w = .ok v w1) :
    (results fn tmps).run P w = .ok v w1 := by
  have hp' : tmps[p]?.getD undef = .pointer (some ⟨g, 0, none⟩) := by simpa using hp
  simp [results, h, hp', asAddr, hl]
theorem wpList_built (hgd : o.guard = none) (t : TypeId) (parts : Array (Nat × Operand)) (ho : o.op = .build t parts) (l : List Value)
    (hf : P.built t (parts.map fun (i, x) => (i, a.eval x)).toList = some l.toArray)
    (h : wpList P ops Q rest (a.put o.dst (.agg l.toArray)) w) : wpList P ops Q (o :: rest) a w := by
  refine wpList_build hgd t parts ho (by rw [hf]; rfl) ?_
  rw [hf]; exact h
theorem wpList_box (hgd : o.guard = none) (t : TypeId) (x : Operand) (ho : o.op = .box t x) (l : List Value) (hx : a.eval x = .agg l.toArray)
    (h : ∀ w', Row w' w.heap.size t l → Pu w w' → w'.heap.size = w.heap.size + 1 → wpList P ops Q rest (a.put o.dst (.pointer (some ⟨w.heap.size, 0, none⟩))) w') : wpList P ops Q (o :: rest) a w := by
  refine wpList_plain hgd fun K hK => ?_
  unfold Oper.wp execOp
  simp only [ho, hx, Sem.run_bind, Instr.box, newVar, newRow, run_newObj_alloc, Sem.run_pure, Result.andThen_ok, Value.cells]
  exact hK _ _ (h _ (Row.new w l.toArray t) (Pu.alloc (Below.refl _ _) _) (by simp))
/-- 'box': a value of several cells in a block of its own. -/
theorem box_row (w : World) (vs : List Value) (e : TypeId) : Row (w.alloc (.cells vs.toArray e)) w.heap.size e vs := Row.new w vs.toArray e
end
end Go.Esc
set_option linter.unusedSimpArgs false
set_option linter.unusedVariables false
namespace Go.Proofs.YtfbnaemnblannaaGreat
open Go.RowKit Go.Esc
theorem sched_length (b : Bs) (t : Nat) : (sched b t).length = t := by induction t <;> simp [sched, *]
/-- Words as cells. -/
def vs (l : List Wd) : List Value := l.map fun x => V x
theorem vs_length (l : List Wd) : (vs l).length = l.length := by simp [vs]
theorem vs_set (l : List Wd) (i : Nat) (x : Wd) : (vs l).set i (V x) = vs (l.set i x) := by simp [vs, List.map_set]
theorem vs_get (l : List Wd) (i : Nat) (h : i < l.length) : (vs l)[i]? = some (V (l.getD i 0)) := by
  simp [vs, List.getElem?_eq_getElem h]
theorem Row.word {w : World} {g : Nat} {e : TypeId} {l : List Wd} (h : Row w g e (vs l)) (j : Nat) (hj : j < l.length) : w.cell? ⟨g, j, none⟩ = some (V (l.getD j 0)) := by
  rw [h.cell' j (by rw [vs_length]; exact hj), vs_get l j hj]
theorem Row.newAt (w1 : World) (g : Nat) (c : Array Value) (e : TypeId) {xs : List Value} (hg : w1.heap.size = g) (h : c.toList = xs) : Row (w1.alloc (.cells c e)) g e xs := by
  subst hg; subst h; exact Row.new w1 c e
def schedArr (b : Bs) (t : Nat) : List Wd := sched b t ++ List.replicate (64 - t) 0
theorem schedArr_length (b : Bs) (t : Nat) (h : t ≤ 64) : (schedArr b t).length = 64 := by simp [schedArr, sched_length]; omega
theorem schedArr_set (b : Bs) (t : Nat) (h : t < 64) : (schedArr b t).set t (if t < 16 then word b t else nextW (sched b t) t) = schedArr b (t+1) := by
  obtain ⟨j, hj⟩ : ∃ j, 64 - t = j + 1 := ⟨63 - t, by omega⟩
  rw [schedArr, schedArr, hj, show 64 - (t + 1) = j by omega, List.replicate_succ, List.set_append]
  simp [sched_length, sched]
theorem schedArr_get (b : Bs) (t i : Nat) (h : i < t) : (schedArr b t).getD i 0 = (sched b t).getD i 0 := by
  simp only [schedArr, List.getD_eq_getElem?_getD]
  rw [List.getElem?_append_left (by rw [sched_length]; exact h)]
theorem sched_val (a x d y : Wd) : Value.int .u32 ((((wd a + Go.bits .xor .u32 (wd (rotr x 7 ^^^ rotr x 18)) (wd x / 8)) % 4294967296 + wd d) % 4294967296 + Go.bits .xor .u32 (wd (rotr y 17 ^^^ rotr y 19)) (wd y / 1024)) % 4294967296)
    = V (a + (rotr x 7 ^^^ rotr x 18 ^^^ x >>> 3) + d + (rotr y 17 ^^^ rotr y 19 ^^^ y >>> 10)) := by
  simp only [wd_shr3, wd_shr10, wd_xor, wd_add']
theorem word_of (b : Bs) (t : Nat) : (b.take (4 * t + 4)).drop (4 * t) = (b.drop (4 * t)).take 4 := by
  rw [List.drop_take]; congr 1; omega
set_option maxRecDepth 100000 in
set_option maxHeartbeats 1600000 in
theorem schedule (b : Bs) (hb : b.length = 64) (w : World) :
    Calls Tryz.prog 142 #[S b] w fun e w' => ∃ l, l = vs (sched b 64) ∧ e = .returned (.agg l.toArray) ∧ Pu w w' := by
  go_enter Tryz.func142, Tryz.ntmps142
  go_wp2_with fail
  go_loopw [7] (fun i wr => ∃ t : Nat, t ≤ 64 ∧ i = .int .i64 t ∧ Row wr w.heap.size 161 (vs (schedArr [] 0)) ∧ Row wr (w.heap.size + 1) 161 (vs (schedArr b t)) ∧ Below w.heap.size w wr) (fun i _ => 64 - (intOf i).toNat)
  case atStart =>
    refine ⟨0, by omega, rfl, (Row.new w _ _).alloc _, ?_, ((Below.refl _ _).alloc (Nat.le_refl _) _).alloc (by simp) _⟩
    exact Row.newAt _ _ _ _ (by simp) rfl
  case round =>
    obtain ⟨t, ht, rfl, hres, hrow, hbel⟩ := hrel
    by_cases hlt : t < 64
    · have hl := schedArr_length b t ht
      have hnext := schedArr_set b t hlt
      by_cases h16 : t < 16
      · rw [if_pos h16] at hnext
        have hbig := fun w => big ((b.take (4 * t + 4)).drop (4 * t)) w (by simp; omega)
        have HB := Lib.hid hbig
        have hs1 : (4 : Int) * t ≤ 4 * t + 4 := by omega
        have hs2 : (4 : Int) * t + 4 ≤ b.length := by omega
        have hs0 : (0 : Int) ≤ 4 * t := by omega
        have hs5 : (0 : Int) ≤ 4 * t + 4 := by omega
        have hs6 : (0 : Int) ≤ t := by omega
        have hs3 : ((4 : Int) * t).toNat = 4 * t := by omega
        have hs4 : ((4 : Int) * t + 4).toNat = 4 * t + 4 := by omega
        have HL := Lib.hid hb
        have HN := Lib.hid hnext
        clear hbig hb hnext
        go_wp2_with (go_at_call 24; refine (HB.out _).mono ?_; rintro e w1 ⟨rfl, hp1⟩; replace hrow := hrow.pu hp1; replace hres := hres.pu hp1; replace hbel := hbel.trans (Below.mono hp1 hbel.size); have hc := Row.word hrow t (by omega); have hf := hrow.frozen t (by rw [vs_length]; omega))
        go_roundw
        case rel =>
          refine ⟨t + 1, by omega, by go_num, hres.setOther _ _ (by simp), ?_, hbel.setCell (by simp) _⟩
          have := hrow.set t (V (word b t))
          rw [vs_set, HN.out] at this
          rw [word_of]
          exact this
        case measure => simp [intOf]; omega
      · have h16' : (16 : Int) ≤ t := by omega
        have e15 : ((t : Int) - 15).toNat = t - 15 := by omega
        have e2 : ((t : Int) - 2).toNat = t - 2 := by omega
        have e16 : ((t : Int) - 16).toNat = t - 16 := by omega
        have e7 : ((t : Int) - 7).toNat = t - 7 := by omega
        have f15 : (0 : Int) ≤ t - 15 := by omega
        have f2 : (0 : Int) ≤ t - 2 := by omega
        have f16 : (0 : Int) ≤ t - 16 := by omega
        have f7 : (0 : Int) ≤ t - 7 := by omega
        have g15 : (t : Int) - 15 < 64 := by omega
        have g2 : (t : Int) - 2 < 64 := by omega
        have g16 : (t : Int) - 16 < 64 := by omega
        have g7 : (t : Int) - 7 < 64 := by omega
        have i15 : IntKind.i64.wrap ((t : Int) - 15) = t - 15 := by rw [IntKind.wrap_i64]; omega
        have i2 : IntKind.i64.wrap ((t : Int) - 2) = t - 2 := by rw [IntKind.wrap_i64]; omega
        have i16 : IntKind.i64.wrap ((t : Int) - 16) = t - 16 := by rw [IntKind.wrap_i64]; omega
        have i7 : IntKind.i64.wrap ((t : Int) - 7) = t - 7 := by rw [IntKind.wrap_i64]; omega
        have hcall : ∀ args w, (callFunc 146 args).run Tryz.prog w = .ok (.enter 146 args) w := fun args w => run_callFunc_body Tryz.func146 (by kernel_rfl) (by kernel_rfl) args w
        have h0t : (0 : Int) ≤ t := by omega
        have h64t : (t : Int) < 64 := by omega
        have q15 : (15 : Int) ≤ t := by omega
        have q2 : (2 : Int) ≤ t := by omega
        have q7 : (7 : Int) ≤ t := by omega
        have h16n : decide ((t : Int) < 16) = false := by simp; omega
        rw [if_neg h16] at hnext
        have HN := Lib.hid hnext
        have HL := Lib.hid hb
        clear hb hnext
        go_wp2_with fail
        apply region_pu (Φs := (Is _ :: Is _ :: Is _ :: Is _ :: Is _ :: Is _ :: Is _ :: Is _ :: Is _ :: Is _ :: [])) (hm := by kernel_rfl) (hE := by kernel_rfl) (hD := by kernel_rfl) (hsize := by kernel_rfl)
        case hop =>
          refine ⟨?_, ?_, ?_, ?_, ?_, ?_, ?_, ?_, ?_, ?_, trivial⟩
          · intro a' w' hs hp he
            have e4 := hs 4 (by kernel_rfl)
            try simp [Is, Region.binds] at he
            exact op_val rfl (wanted_none rfl) (by first | (go_simp; done) | (go_simp; rfl) | (simp [execOp, Act.eval, go_sem, *]; done) | (simp [execOp, Act.eval, go_sem, *]; rfl)) rfl (Pu.refl _)
          · intro a' w' hs hp he
            try simp [Is, Region.binds] at he
            exact op_val rfl (wanted_none rfl) (by first | (go_simp; done) | (go_simp; rfl) | (simp [execOp, Act.eval, go_sem, *]; done) | (simp [execOp, Act.eval, go_sem, *]; rfl)) rfl (Pu.refl _)
          · intro a' w' hs hp he
            have e3 := hs 3 (by kernel_rfl)
            try simp [Is, Region.binds] at he
            exact op_val rfl (wanted_none rfl) (by first | (go_simp; done) | (go_simp; rfl) | (simp [execOp, Act.eval, go_sem, *]; done) | (simp [execOp, Act.eval, go_sem, *]; rfl)) rfl (Pu.refl _)
          · intro a' w' hs hp he
            try simp [Is, Region.binds] at he
            have c := Row.word (hrow.pu hp) (t - 15) (by omega); exact op_val rfl (wanted_none rfl) (by first | (go_simp; done) | (go_simp; rfl)) rfl (Pu.refl _)
          · intro a' w' hs hp he
            have e4 := hs 4 (by kernel_rfl)
            try simp [Is, Region.binds] at he
            exact op_val rfl (wanted_none rfl) (by first | (go_simp; done) | (go_simp; rfl) | (simp [execOp, Act.eval, go_sem, *]; done) | (simp [execOp, Act.eval, go_sem, *]; rfl)) rfl (Pu.refl _)
          · intro a' w' hs hp he
            try simp [Is, Region.binds] at he
            exact op_val rfl (wanted_none rfl) (by first | (go_simp; done) | (go_simp; rfl) | (simp [execOp, Act.eval, go_sem, *]; done) | (simp [execOp, Act.eval, go_sem, *]; rfl)) rfl (Pu.refl _)
          · intro a' w' hs hp he
            have e3 := hs 3 (by kernel_rfl)
            try simp [Is, Region.binds] at he
            exact op_val rfl (wanted_none rfl) (by first | (go_simp; done) | (go_simp; rfl) | (simp [execOp, Act.eval, go_sem, *]; done) | (simp [execOp, Act.eval, go_sem, *]; rfl)) rfl (Pu.refl _)
          · intro a' w' hs hp he
            try simp [Is, Region.binds] at he
            have c := Row.word (hrow.pu hp) (t - 2) (by omega); exact op_val rfl (wanted_none rfl) (by first | (go_simp; done) | (go_simp; rfl)) rfl (Pu.refl _)
          · intro a' w' hs hp he
            try simp [Is, Region.binds] at he
            exact op_val rfl (wanted_none rfl) (by first | (go_simp; done) | (go_simp; rfl) | (simp [execOp, Act.eval, go_sem, *]; done) | (simp [execOp, Act.eval, go_sem, *]; rfl)) rfl (Pu.refl _)
          · intro a' w' hs hp he
            try simp [Is, Region.binds] at he
            exact op_val rfl (wanted_none rfl) (by first | (go_simp; done) | (go_simp; rfl) | (simp [execOp, Act.eval, go_sem, *]; done) | (simp [execOp, Act.eval, go_sem, *]; rfl)) rfl (Pu.refl _)
        case hend =>
          intro a' w' hdef hsz hs hp hall
          obtain ⟨r0, r1, r2, r3, r4, r5, r6, r7, r8, r9, -⟩ := hall
          have hA := agree_done (agree_step (agree_step (agree_step (agree_step (agree_step (agree_step (agree_step (agree_step (agree_step (agree_step (agree_init [23, 24, 25, 26, 27, 28, 29, 30, 5, 6] hsz hs (by kernel_rfl)) r0) r1) r2) r3) r4) r5) r6) r7) r8) r9)
          have ha := act_of hA hdef
          rw [ha]
          clear ha hA hs hsz hdef r0 r1 r2 r3 r4 r5 r6 r7 r8 r9 
          (try simp only [List.setIfInBounds_toArray])
          (try dsimp only [List.set_cons_zero, List.set_cons_succ])
          (try simp only [Exit.then])
          replace hrow := hrow.pu hp
          replace hres := hres.pu hp
          replace hbel := hbel.trans (Below.mono hp hbel.size)
          clear hp
          go_wp2_with fail
          apply region_last (n := 29) (hn := by kernel_rfl) (hlast := rfl) (hU := by kernel_rfl) (Φs := (Is _ :: Is _ :: Is _ :: Is _ :: Is _ :: Is _ :: Is _ :: Is _ :: Is _ :: Is _ :: Is _ :: Is _ :: Is _ :: Is _ :: Is _ :: Is _ :: Is _ :: Is _ :: Is _ :: Is _ :: Is _ :: Is _ :: Is _ :: Is _ :: Is _ :: Is _ :: Is _ :: Is _ :: Is _ :: [])) (hm := by kernel_rfl) (hE := by kernel_rfl) (hD := by kernel_rfl) (hsize := by kernel_rfl)
          case hop =>
            refine ⟨?_, ?_, ?_, ?_, ?_, ?_, ?_, ?_, ?_, ?_, ?_, ?_, ?_, ?_, ?_, ?_, ?_, ?_, ?_, ?_, ?_, ?_, ?_, ?_, ?_, ?_, ?_, ?_, ?_, trivial⟩
            · intro a' w' hs hp he
              have e4 := hs 4 (by kernel_rfl)
              try simp [Is, Region.binds] at he
              exact op_val rfl (wanted_none rfl) (by first | (go_simp; done) | (go_simp; rfl) | (simp [execOp, Act.eval, go_sem, *]; done) | (simp [execOp, Act.eval, go_sem, *]; rfl)) rfl (Pu.refl _)
            · intro a' w' hs hp he
              have e4 := hs 4 (by kernel_rfl)
              try simp [Is, Region.binds] at he
              exact op_val rfl (wanted_none rfl) (by first | (go_simp; done) | (go_simp; rfl) | (simp [execOp, Act.eval, go_sem, *]; done) | (simp [execOp, Act.eval, go_sem, *]; rfl)) rfl (Pu.refl _)
            · intro a' w' hs hp he
              try simp [Is, Region.binds] at he
              exact op_val rfl (wanted_none rfl) (by first | (go_simp; done) | (go_simp; rfl) | (simp [execOp, Act.eval, go_sem, *]; done) | (simp [execOp, Act.eval, go_sem, *]; rfl)) rfl (Pu.refl _)
            · intro a' w' hs hp he
              have e3 := hs 3 (by kernel_rfl)
              try simp [Is, Region.binds] at he
              exact op_val rfl (wanted_none rfl) (by first | (go_simp; done) | (go_simp; rfl) | (simp [execOp, Act.eval, go_sem, *]; done) | (simp [execOp, Act.eval, go_sem, *]; rfl)) rfl (Pu.refl _)
            · intro a' w' hs hp he
              try simp [Is, Region.binds] at he
              have c := Row.word (hrow.pu hp) (t - 16) (by omega); exact op_val rfl (wanted_none rfl) (by first | (go_simp; done) | (go_simp; rfl)) rfl (Pu.refl _)
            · intro a' w' hs hp he
              have e5 := hs 5 (by kernel_rfl)
              try simp [Is, Region.binds] at he
              exact op_val rfl (wanted_none rfl) (by first | (go_simp; done) | (go_simp; rfl) | (simp [execOp, Act.eval, go_sem, *]; done) | (simp [execOp, Act.eval, go_sem, *]; rfl)) rfl (Pu.refl _)
            · intro a' w' hs hp he
              try simp [Is, Region.binds] at he
              exact op_callV (right _ 7 (by decide) (by decide) _) rfl (wanted_none rfl) (by first | (go_simp; done) | (go_simp; rfl)) rfl
            · intro a' w' hs hp he
              have e5 := hs 5 (by kernel_rfl)
              try simp [Is, Region.binds] at he
              exact op_val rfl (wanted_none rfl) (by first | (go_simp; done) | (go_simp; rfl) | (simp [execOp, Act.eval, go_sem, *]; done) | (simp [execOp, Act.eval, go_sem, *]; rfl)) rfl (Pu.refl _)
            · intro a' w' hs hp he
              try simp [Is, Region.binds] at he
              exact op_callV (right _ 18 (by decide) (by decide) _) rfl (wanted_none rfl) (by first | (go_simp; done) | (go_simp; rfl)) rfl
            · intro a' w' hs hp he
              try simp [Is, Region.binds] at he
              exact op_val rfl (wanted_none rfl) (by first | (go_simp; done) | (go_simp; rfl) | (simp [execOp, Act.eval, go_sem, *]; done) | (simp [execOp, Act.eval, go_sem, *]; rfl)) rfl (Pu.refl _)
            · intro a' w' hs hp he
              have e5 := hs 5 (by kernel_rfl)
              try simp [Is, Region.binds] at he
              exact op_val rfl (wanted_none rfl) (by first | (go_simp; done) | (go_simp; rfl) | (simp [execOp, Act.eval, go_sem, *]; done) | (simp [execOp, Act.eval, go_sem, *]; rfl)) rfl (Pu.refl _)
            · intro a' w' hs hp he
              try simp [Is, Region.binds] at he
              exact op_val rfl (wanted_none rfl) (by first | (go_simp; done) | (go_simp; rfl) | (simp [execOp, Act.eval, go_sem, *]; done) | (simp [execOp, Act.eval, go_sem, *]; rfl)) rfl (Pu.refl _)
            · intro a' w' hs hp he
              try simp [Is, Region.binds] at he
              exact op_val rfl (wanted_none rfl) (by first | (go_simp; done) | (go_simp; rfl) | (simp [execOp, Act.eval, go_sem, *]; done) | (simp [execOp, Act.eval, go_sem, *]; rfl)) rfl (Pu.refl _)
            · intro a' w' hs hp he
              try simp [Is, Region.binds] at he
              exact op_val rfl (wanted_none rfl) (by first | (go_simp; done) | (go_simp; rfl) | (simp [execOp, Act.eval, go_sem, *]; done) | (simp [execOp, Act.eval, go_sem, *]; rfl)) rfl (Pu.refl _)
            · intro a' w' hs hp he
              have e4 := hs 4 (by kernel_rfl)
              try simp [Is, Region.binds] at he
              exact op_val rfl (wanted_none rfl) (by first | (go_simp; done) | (go_simp; rfl) | (simp [execOp, Act.eval, go_sem, *]; done) | (simp [execOp, Act.eval, go_sem, *]; rfl)) rfl (Pu.refl _)
            · intro a' w' hs hp he
              try simp [Is, Region.binds] at he
              exact op_val rfl (wanted_none rfl) (by first | (go_simp; done) | (go_simp; rfl) | (simp [execOp, Act.eval, go_sem, *]; done) | (simp [execOp, Act.eval, go_sem, *]; rfl)) rfl (Pu.refl _)
            · intro a' w' hs hp he
              have e3 := hs 3 (by kernel_rfl)
              try simp [Is, Region.binds] at he
              exact op_val rfl (wanted_none rfl) (by first | (go_simp; done) | (go_simp; rfl) | (simp [execOp, Act.eval, go_sem, *]; done) | (simp [execOp, Act.eval, go_sem, *]; rfl)) rfl (Pu.refl _)
            · intro a' w' hs hp he
              try simp [Is, Region.binds] at he
              have c := Row.word (hrow.pu hp) (t - 7) (by omega); exact op_val rfl (wanted_none rfl) (by first | (go_simp; done) | (go_simp; rfl)) rfl (Pu.refl _)
            · intro a' w' hs hp he
              try simp [Is, Region.binds] at he
              exact op_val rfl (wanted_none rfl) (by first | (go_simp; done) | (go_simp; rfl) | (simp [execOp, Act.eval, go_sem, *]; done) | (simp [execOp, Act.eval, go_sem, *]; rfl)) rfl (Pu.refl _)
            · intro a' w' hs hp he
              have e6 := hs 6 (by kernel_rfl)
              try simp [Is, Region.binds] at he
              exact op_val rfl (wanted_none rfl) (by first | (go_simp; done) | (go_simp; rfl) | (simp [execOp, Act.eval, go_sem, *]; done) | (simp [execOp, Act.eval, go_sem, *]; rfl)) rfl (Pu.refl _)
            · intro a' w' hs hp he
              try simp [Is, Region.binds] at he
              exact op_callV (right _ 17 (by decide) (by decide) _) rfl (wanted_none rfl) (by first | (go_simp; done) | (go_simp; rfl)) rfl
            · intro a' w' hs hp he
              have e6 := hs 6 (by kernel_rfl)
              try simp [Is, Region.binds] at he
              exact op_val rfl (wanted_none rfl) (by first | (go_simp; done) | (go_simp; rfl) | (simp [execOp, Act.eval, go_sem, *]; done) | (simp [execOp, Act.eval, go_sem, *]; rfl)) rfl (Pu.refl _)
            · intro a' w' hs hp he
              try simp [Is, Region.binds] at he
              exact op_callV (right _ 19 (by decide) (by decide) _) rfl (wanted_none rfl) (by first | (go_simp; done) | (go_simp; rfl)) rfl
            · intro a' w' hs hp he
              try simp [Is, Region.binds] at he
              exact op_val rfl (wanted_none rfl) (by first | (go_simp; done) | (go_simp; rfl) | (simp [execOp, Act.eval, go_sem, *]; done) | (simp [execOp, Act.eval, go_sem, *]; rfl)) rfl (Pu.refl _)
            · intro a' w' hs hp he
              have e6 := hs 6 (by kernel_rfl)
              try simp [Is, Region.binds] at he
              exact op_val rfl (wanted_none rfl) (by first | (go_simp; done) | (go_simp; rfl) | (simp [execOp, Act.eval, go_sem, *]; done) | (simp [execOp, Act.eval, go_sem, *]; rfl)) rfl (Pu.refl _)
            · intro a' w' hs hp he
              try simp [Is, Region.binds] at he
              exact op_val rfl (wanted_none rfl) (by first | (go_simp; done) | (go_simp; rfl) | (simp [execOp, Act.eval, go_sem, *]; done) | (simp [execOp, Act.eval, go_sem, *]; rfl)) rfl (Pu.refl _)
            · intro a' w' hs hp he
              try simp [Is, Region.binds] at he
              exact op_val rfl (wanted_none rfl) (by first | (go_simp; done) | (go_simp; rfl) | (simp [execOp, Act.eval, go_sem, *]; done) | (simp [execOp, Act.eval, go_sem, *]; rfl)) rfl (Pu.refl _)
            · intro a' w' hs hp he
              try simp [Is, Region.binds] at he
              exact op_val rfl (wanted_none rfl) (by first | (go_simp; done) | (go_simp; rfl) | (simp [execOp, Act.eval, go_sem, *]; done) | (simp [execOp, Act.eval, go_sem, *]; rfl)) rfl (Pu.refl _)
            · intro a' w' hs hp he
              have e3 := hs 3 (by kernel_rfl)
              try simp [Is, Region.binds] at he
              exact op_val rfl (wanted_none rfl) (by first | (go_simp; done) | (go_simp; rfl) | (simp [execOp, Act.eval, go_sem, *]; done) | (simp [execOp, Act.eval, go_sem, *]; rfl)) rfl (Pu.refl _)
          case hend =>
            intro a' w' hdef hsz hs hp hall
            obtain ⟨r0, r1, r2, r3, r4, r5, r6, r7, r8, r9, r10, r11, r12, r13, r14, r15, r16, r17, r18, r19, r20, r21, r22, r23, r24, r25, r26, r27, r28, -⟩ := hall
            have hA := agree_done (agree_step (agree_step (agree_step (agree_step (agree_step (agree_step (agree_step (agree_step (agree_step (agree_step (agree_step (agree_step (agree_step (agree_step (agree_step (agree_step (agree_step (agree_step (agree_step (agree_step (agree_step (agree_step (agree_step (agree_step (agree_step (agree_step (agree_step (agree_step (agree_step (agree_init [31, 32, 33, 34, 35, 36, 37, 38, 39, 40, 41, 42, 43, 44, 45, 46, 47, 48, 49, 50, 51, 52, 53, 54, 55, 56, 57, 58, 59] hsz hs (by kernel_rfl)) r0) r1) r2) r3) r4) r5) r6) r7) r8) r9) r10) r11) r12) r13) r14) r15) r16) r17) r18) r19) r20) r21) r22) r23) r24) r25) r26) r27) r28)
            have ha := act_of hA hdef
            rw [ha]
            clear ha hA hs hsz hdef r0 r1 r2 r3 r4 r5 r6 r7 r8 r9 r10 r11 r12 r13 r14 r15 r16 r17 r18 r19 r20 r21 r22 r23 r24 r25 r26 r27 r28 
            (try simp only [List.setIfInBounds_toArray])
            (try dsimp only [List.set_cons_zero, List.set_cons_succ])
            (try simp only [Exit.then])
            have hc := Row.word (hrow.pu hp) t (by omega); have hf := (hrow.pu hp).frozen t (by rw [vs_length]; omega)
            refine op_done rfl (wanted_none rfl) (by first | (go_simp; done) | (go_simp; rfl)) ?_
            (try simp only [Exit.inBlock, Exit.then])
            go_wp2_with fail
            go_roundw
            case rel =>
              replace hrow := hrow.pu hp
              replace hres := hres.pu hp
              replace hbel := hbel.trans (Below.mono hp hbel.size)
              refine ⟨t + 1, by omega, by go_num, hres.setOther _ _ (by simp), ?_, hbel.setCell (by simp) _⟩
              have := hrow.set t (V (nextW (sched b t) t))
              rw [vs_set, HN.out] at this
              have hx := fun n (hn : n < t) => schedArr_get b t n hn
              simp only [nextW, ← hx (t - 15) (by omega), ← hx (t - 2) (by omega), ← hx (t - 16) (by omega), ← hx (t - 7) (by omega), List.getD_eq_getElem?_getD] at this
              first | exact this | (rw [← sched_val] at this; exact this)
            case measure => simp [intOf]; omega
    · obtain rfl : t = 64 := by omega
      have hi : (Tryz.prog.info? 161).map (·.size) = some 64 := by kernel_rfl
      have hl64 : (vs (sched b 64)).length = 64 := by rw [vs_length, sched_length]
      have harr : schedArr b 64 = sched b 64 := by simp [schedArr]
      rw [harr] at hrow
      obtain ⟨l, hll⟩ : ∃ l, l = vs (sched b 64) := ⟨_, rfl⟩
      rw [← hll] at hrow hl64
      have hone : l.all (·.oneCell') = true := by rw [hll]; simp [vs, Value.oneCell']
      have htk : ((l.drop 0).take 64) = l := by rw [List.drop_zero, List.take_of_length_le (by omega)]
      have HLL := Lib.hid hll
      clear hll harr
      go_wp2_with (first | (refine wpList_load_part rfl 161 (.tmp 3) rfl (w.heap.size+1) 0 64 (by rfl) hrow Tryz.underlying161 rfl hi (by omega) ?_; rw [htk]) | (refine wpList_store_part rfl 161 (.tmp 2) (.tmp 61) rfl w.heap.size 0 l (by rfl) (by rfl) hres (by rw [hl64]; exact hi) (by rw [vs_length]; simp [schedArr_length]; omega) hone ?_; intro w1 hr1 hch))
      have hrl := hr1.load (P := Tryz.prog) 161 0 64 Tryz.underlying161 rfl hi (by rw [splice_length, vs_length]; simp [schedArr_length])
      rw [splice_all (by rw [hl64, vs_length]; simp [schedArr_length]), htk] at hrl
      (try simp only [Exit.inBlock, Exit.then])
      refine bodyPost_ret (results_cell_eq rfl _ _ rfl hrl) rfl ?_
      exact ⟨l, HLL.out, rfl, hch.below hbel (Nat.le_refl _)⟩
end Go.Proofs.YtfbnaemnblannaaGreat
set_option linter.unusedSimpArgs false
set_option linter.unusedVariables false
namespace Go.Esc
open Go Go.RowKit
theorem xorL_zero {a b : Bs} (h : a.length = b.length) : (∀ (k : Nat) (h1 : k < (xorL a b).length), (xorL a b)[k] = 0) ↔ a = b := by
  constructor
  · intro hz
    apply List.ext_getElem h
    intro k h1 h2
    have h3 := hz k (by rw [xorL_length]; omega)
    simp only [xorL, List.getElem_zipWith] at h3
    exact UInt8.xor_eq_zero_iff.1 h3
  · rintro rfl k h1
    simp only [xorL, List.getElem_zipWith]
    exact UInt8.xor_self
end Go.Esc
namespace Go.Proofs.YtfbnaemnblannaaGreat
open Go.RowKit Go.Esc
set_option maxRecDepth 100000 in
set_option maxHeartbeats 1600000 in
theorem add64 (a : Addr) (x : Int) (w : World) (hx : 0 ≤ x ∧ x < 1000000000) (hc : w.cell? a = some (.int .i64 x)) (hz : w.frozen? a = false) :
    Calls Tryz.prog 18 #[.pointer (some a), .int .i64 1] w fun e w' => e = .returned (.int .i64 (x + 1)) ∧ w' = w.setCell a (.int .i64 (x + 1)) := by
  have hs : (Op.intArith .add .i64 x 1).run Tryz.prog w = .ok (.int .i64 (x + 1)) w := by
    have : IntKind.i64.wrap (x + 1) = x + 1 := by rw [IntKind.wrap_i64]; omega
    show (Sem.pure (Value.int .i64 (IntKind.i64.wrap (x + 1)))).run _ w = _
    rw [this]; rfl
  have hadd := run_call_add (P := Tryz.prog) Tryz.func37 (by kernel_rfl) (by kernel_rfl) (by kernel_rfl) .i64 (by kernel_rfl) (y := 1) hc hz hs
  go_enter Tryz.func18, Tryz.ntmps18
  go_wp2_with fail
  go_ret
  exact ⟨rfl, rfl⟩
set_option maxRecDepth 100000 in
theorem load64 (a : Addr) (x : Int) (w : World) (hc : w.cell? a = some (.int .i64 x)) :
    Calls Tryz.prog 28 #[.pointer (some a)] w fun e w' => e = .returned (.int .i64 x) ∧ w' = w := by
  have hl := run_call_load (P := Tryz.prog) Tryz.func48 (by kernel_rfl) (by kernel_rfl) (by kernel_rfl) .i64 (by kernel_rfl) hc
  go_enter Tryz.func28, Tryz.ntmps28
  go_wp2_with fail
  go_ret
  exact ⟨rfl, rfl⟩
set_option maxRecDepth 100000 in
set_option maxHeartbeats 1600000 in
theorem same (a b : Bs) (h : a.length ≤ 1000000) (h2 : b.length ≤ 1000000) (w : World) :
    Calls Tryz.prog 76 #[S a, S b] w fun e w' => e = .returned (.bool (decide (a = b))) ∧ Pu w w' := by
  have hx := fun w => xor a b (.inl h) w
  obtain ⟨z, hz⟩ : ∃ z, z = xorL a b := ⟨_, rfl⟩
  have hzl : z.length ≤ 1000000 := by rw [hz, xorL_length]; omega
  rw [← hz] at hx
  have HX := Lib.hid hx
  have HZ := Lib.hid hz
  clear hx hz
  go_enter Tryz.func76, Tryz.ntmps76
  go_wp2_with (first
    | (go_at_call 58; refine (HX.out _).mono ?_; rintro e w1 ⟨rfl, hp1⟩)
    | (refine wpList_bytes _ rfl (.tmp 10) 9 31 5 rfl z (by first | rfl | simp [Act.eval]) Tryz.underlying9 Tryz.underlying31 Tryz.underlying5 ?_; intro w2 cap hrow hpu hcap))
  have hr0 := ((Row.newAt w w.heap.size _ _ rfl rfl).pu hp1).pu hpu
  have hb0 := (((Pu.refl w).alloc _).trans hp1).trans hpu
  have hs1 := hp1.size
  have hs0 : w.heap.size < w1.heap.size := by simp at hs1; omega
  clear hp1 hpu hcap hs1
  go_loopw [13] (fun i wr => ∃ (k x : Nat), k ≤ z.length ∧ x ≤ k ∧ (x = 0 ↔ ∀ j, j < k → z.getD j 0 = 0) ∧ i = .int .i64 (k : Int) ∧ Row wr w.heap.size 47 [.int .i64 (x : Int)] ∧ Row wr w1.heap.size 5 (cells z) ∧ Below w.heap.size w wr) (fun i _ => z.length - (intOf i).toNat)
  case atStart => exact ⟨0, 0, by omega, by omega, ⟨fun _ j h => absurd h (by omega), fun _ => rfl⟩, rfl, hr0, hrow, hb0⟩
  case round =>
    clear hr0 hrow hb0
    obtain ⟨k, x, hk, hxk, hiff, rfl, hr, hrow, hbel⟩ := hrel
    by_cases hlt : k < z.length
    · obtain ⟨c, hc⟩ : ∃ c, z[k] = c := ⟨_, rfl⟩
      have hcc := Row.byte hrow k hlt
      rw [hc] at hcc
      have hgk : z.getD k 0 = c := by simp [List.getD_eq_getElem?_getD, List.getElem?_eq_getElem hlt, hc]
      have HI := Lib.hid hiff
      have HGK := Lib.hid hgk
      clear hc hgk hiff
      by_cases hcz : c = 0
      · subst hcz
        go_wp2_with fail
        go_roundw
        case rel =>
          refine ⟨k + 1, x, by omega, by omega, ?_, by go_num, hr, hrow, hbel⟩
          rw [HI.out]
          constructor
          · intro h j hj
            by_cases hjk : j = k
            · subst hjk; exact HGK.out
            · exact h j (by omega)
          · intro h j hj; exact h j (by omega)
        case measure => simp [intOf]; omega
      · have hne : ¬ ((c.toNat : Int) = 0) := by
          intro h
          exact hcz (UInt8.toNat_inj.1 (by simpa using (by omega : c.toNat = 0)))
        have hne2 : ((c.toNat : Int) == 0) = false := by simp; intro h; exact hne (by omega)
        have c0 := hr.cell 0 (by simp)
        have f0 := hr.frozen 0 (by simp)
        simp at c0
        go_wp2_with (go_at_call 18; refine (add64 ⟨w.heap.size, 0, none⟩ (x : Int) _ (by omega) c0 f0).mono ?_; rintro e w3 ⟨rfl, rfl⟩)
        go_roundw
        case rel =>
          refine ⟨k + 1, x + 1, by omega, by omega, ?_, by go_num, ?_, hrow.setOther _ _ (by simp; omega), hbel.setCell (by simp) _⟩
          · constructor
            · intro h; omega
            · intro h; exact absurd ((HGK.out).symm.trans (h k (by omega))) hcz
          · exact hr.set 0 _
        case measure => simp [intOf]; omega
    · obtain rfl : k = z.length := by omega
      have c0 := hr.cell 0 (by simp)
      simp at c0
      have hfin : ∀ hl : a.length = b.length, (x = 0 ↔ a = b) := by
        intro hl
        rw [hiff, ← xorL_zero hl, ← HZ.out]
        constructor
        · intro h k hk
          have := h k hk
          rwa [List.getD_eq_getElem?_getD, List.getElem?_eq_getElem hk] at this
        · intro h k hk
          rw [List.getD_eq_getElem?_getD, List.getElem?_eq_getElem hk]; exact h k hk
      have HF := Lib.hid hfin
      clear hfin hiff
      by_cases hx0 : x = 0
      · by_cases hl : a.length = b.length
        · have hd : decide (a = b) = true := by simp; exact (HF.out hl).1 hx0
          have hl' : (a.length : Int) = b.length := by omega
          subst hx0
          have HD := Lib.hid hd
          clear hd
          go_wp2_with (go_at_call 28; refine (load64 ⟨w.heap.size, 0, none⟩ _ _ c0).mono ?_; rintro e w3 ⟨rfl, rfl⟩)
          go_ret
          exact ⟨by rw [HD.out]; rfl, hbel⟩
        · have hd : decide (a = b) = false := by simp; rintro rfl; exact hl rfl
          have hl' : ¬ ((a.length : Int) = b.length) := by omega
          have hl2 : ((a.length : Int) == b.length) = false := by simp; omega
          subst hx0
          have HD := Lib.hid hd
          clear hd
          go_wp2_with (go_at_call 28; refine (load64 ⟨w.heap.size, 0, none⟩ _ _ c0).mono ?_; rintro e w3 ⟨rfl, rfl⟩)
          go_ret
          exact ⟨by rw [HD.out]; rfl, hbel⟩
      · have hd : decide (a = b) = false := by
          simp; rintro rfl; exact hx0 ((HF.out rfl).2 rfl)
        have hxi : ¬ ((x : Int) = 0) := by omega
        have hxi2 : ((x : Int) == 0) = false := by simp; omega
        have HD := Lib.hid hd
        clear hd
        go_wp2_with (go_at_call 28; refine (load64 ⟨w.heap.size, 0, none⟩ _ _ c0).mono ?_; rintro e w3 ⟨rfl, rfl⟩)
        go_ret
        exact ⟨by rw [HD.out]; rfl, hbel⟩
end Go.Proofs.YtfbnaemnblannaaGreat
