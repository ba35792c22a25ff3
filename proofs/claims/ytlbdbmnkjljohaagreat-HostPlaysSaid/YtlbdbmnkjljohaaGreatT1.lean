/- Values, worlds and bytes: lemmas over whatever program. Whole rows read and written in a walk. What the document computes, in plain Lean. Contracts of package octet. Laws for regions that draw their order: append onto a row of the call's own. The document's PutBig and Big. -/
import Derived.WalkKit
import Derived.Laws.BitsAllLaws
import Derived.Laws.IdiomCopy
import Derived.Laws.Rows
import Derived.Laws.Tables
import Derived.Test.YtlbdbmnkjljohaaGreatProg
import Derived.Lib.Hide
import Derived.Deep.RegionLaw
set_option linter.unusedSimpArgs false
set_option linter.unusedVariables false
namespace Go.Esc
open Go Go.RowKit
/-- A word of 32 bits as a value. -/
def W (x : BitVec 32) : Value := .int .u32 (x.toNat : Int)
/-- A word of 64 bits as a value. -/
def D (x : BitVec 64) : Value := .int .u64 (x.toNat : Int)
/-- A byte as a value. -/
def B (x : UInt8) : Value := .int .u8 (x.toNat : Int)

section
variable {P : Program}
theorem ofIntNat (n : Nat) (x : BitVec n) : BitVec.ofInt n (x.toNat : Int) = x := by
  apply BitVec.eq_of_toInt_eq; simp [BitVec.toInt_eq_toNat_bmod]
theorem wrapW (n : Int) : Value.int .u32 (IntKind.u32.wrap n) = W (BitVec.ofInt 32 n) := by
  simp only [W]; rw [IntKind.wrap_u32, BitVec.toNat_ofInt]; congr 1; omega
theorem wrapD (n : Int) : Value.int .u64 (IntKind.u64.wrap n) = D (BitVec.ofInt 64 n) := by
  simp only [D]; rw [IntKind.wrap_u64, BitVec.toNat_ofInt]; congr 1; omega
theorem inW (n : Nat) (h : n < 2^32) : Value.int .u32 (n : Int) = W (BitVec.ofNat 32 n) := by
  simp only [W, BitVec.toNat_ofNat]; rw [Nat.mod_eq_of_lt h]

theorem run_addW (T : TypeId) (a b : BitVec 32) (w : World) : (binOp .add T (W a) (W b)).run P w = .ok (W (a + b)) w := by
  show (Sem.pure (Value.int .u32 (IntKind.u32.wrap (_ + _)))).run P w = _
  rw [wrapW, BitVec.ofInt_add, ofIntNat, ofIntNat]; rfl
theorem run_subW (T : TypeId) (a b : BitVec 32) (w : World) : (binOp .sub T (W a) (W b)).run P w = .ok (W (a - b)) w := by
  show (Sem.pure (Value.int .u32 (IntKind.u32.wrap (_ - _)))).run P w = _
  rw [wrapW, Int.sub_eq_add_neg, BitVec.ofInt_add, BitVec.ofInt_neg, ofIntNat, ofIntNat, ← BitVec.sub_eq_add_neg]; rfl
theorem wrapNatW (x : BitVec 32) : Value.int .u32 (IntKind.u32.wrap (x.toNat : Int)) = W x := by rw [wrapW, ofIntNat]
theorem wrapNatD (x : BitVec 64) : Value.int .u64 (IntKind.u64.wrap (x.toNat : Int)) = D x := by rw [wrapD, ofIntNat]
theorem run_xorW (T : TypeId) (a b : BitVec 32) (w : World) : (binOp .xor T (W a) (W b)).run P w = .ok (W (a ^^^ b)) w := by
  show (Sem.pure (Value.int .u32 (IntKind.u32.wrap ((BitVec.ofInt 32 (a.toNat : Int) ^^^ BitVec.ofInt 32 (b.toNat : Int)).toNat : Int)))).run P w = _
  rw [wrapNatW, ofIntNat, ofIntNat]; rfl
theorem run_andW (T : TypeId) (a b : BitVec 32) (w : World) : (binOp .and T (W a) (W b)).run P w = .ok (W (a &&& b)) w := by
  show (Sem.pure (Value.int .u32 (IntKind.u32.wrap ((BitVec.ofInt 32 (a.toNat : Int) &&& BitVec.ofInt 32 (b.toNat : Int)).toNat : Int)))).run P w = _
  rw [wrapNatW, ofIntNat, ofIntNat]; rfl
theorem run_orW (T : TypeId) (a b : BitVec 32) (w : World) : (binOp .or T (W a) (W b)).run P w = .ok (W (a ||| b)) w := by
  show (Sem.pure (Value.int .u32 (IntKind.u32.wrap ((BitVec.ofInt 32 (a.toNat : Int) ||| BitVec.ofInt 32 (b.toNat : Int)).toNat : Int)))).run P w = _
  rw [wrapNatW, ofIntNat, ofIntNat]; rfl
theorem run_notW (a : BitVec 32) (w : World) : (Op.unary .xor (W a)).run P w = .ok (W (~~~a)) w := by
  show (Sem.pure (Value.int .u32 (IntKind.u32.wrap ((BitVec.ofInt 32 (4294967295 : Int) ^^^ BitVec.ofInt 32 (a.toNat : Int)).toNat : Int)))).run P w = _
  rw [wrapNatW, ofIntNat]
  have : BitVec.ofInt 32 4294967295 = BitVec.allOnes 32 := by decide
  rw [this, BitVec.allOnes_xor]; rfl
theorem run_shrW (T : TypeId) (yk : IntKind) (a : BitVec 32) (n : Nat) (w : World) : (binOp .shr T (W a) (.int yk (n : Int))).run P w = .ok (W (a >>> n)) w := by
  have h : (Op.shift .shr .u32 (a.toNat : Int) yk (n : Int)).run P w = .ok (W (a >>> n)) w := by
    unfold Op.shift
    rw [if_neg (by omega)]
    show (Sem.pure _).run P w = _
    simp only [Sem.run, W]
    congr 2
    simp only [Int.toNat_natCast, BitVec.toNat_ushiftRight, IntKind.bits]
    rw [Nat.shiftRight_eq_div_pow]
    have hlt := a.isLt
    rcases Nat.le_total n 32 with hn | hn
    · rw [Nat.min_eq_left hn, Int.fdiv_eq_ediv_of_nonneg _ (by exact_mod_cast Nat.zero_le _)]; simp
    · rw [Nat.min_eq_right hn, Int.fdiv_eq_ediv_of_nonneg _ (by decide)]
      have h1 : a.toNat / 2^n = 0 := Nat.div_eq_of_lt (Nat.lt_of_lt_of_le hlt (Nat.pow_le_pow_right (by decide) hn))
      rw [h1]; omega
  exact h
theorem run_shlW (T : TypeId) (yk : IntKind) (a : BitVec 32) (n : Nat) (w : World) : (binOp .shl T (W a) (.int yk (n : Int))).run P w = .ok (W (a <<< n)) w := by
  have h : (Op.shift .shl .u32 (a.toNat : Int) yk (n : Int)).run P w = .ok (W (a <<< n)) w := by
    unfold Op.shift
    rw [if_neg (by omega)]
    show (Sem.pure _).run P w = _
    simp only [Sem.run]
    congr 1
    rw [wrapW]
    simp only [Int.toNat_natCast, IntKind.bits]
    congr 1
    apply BitVec.eq_of_toNat_eq
    rw [BitVec.toNat_shiftLeft, Nat.shiftLeft_eq]
    have e : ((a.toNat : Int) * 2 ^ min n 32) = ((a.toNat * 2 ^ min n 32 : Nat) : Int) := by simp
    rw [e, BitVec.ofInt_natCast, BitVec.toNat_ofNat]
    rcases Nat.le_total n 32 with hn | hn
    · rw [Nat.min_eq_left hn]
    · rw [Nat.min_eq_right hn]
      have : a.toNat * 2 ^ n = 2^32 * (a.toNat * 2^(n-32)) := by
        rw [Nat.mul_left_comm, ← Nat.pow_add]; congr 2; omega
      rw [this]; omega
  exact h
end

theorem bits_or256 (x c : Nat) (hx : x ≤ 72057594037927935) (hc : c < 256) : Go.bits .or .u64 ((x : Int) * 256) (c : Int) = ((x * 256 + c : Nat) : Int) := by
  rw [u64_or _ _ (by omega) (by omega) (by omega) (by omega)]
  have e : ((x : Int) * 256).toNat = x * 256 := by omega
  rw [e, Int.toNat_natCast, nat_join8 _ _ (by omega) hc]
/-- Bytes as the model's bytes. -/
def bs (l : List UInt8) : ByteArray := ⟨l.toArray⟩
/-- A text as a value. -/
abbrev S (l : List UInt8) : Value := .string (bs l)
theorem bs_size (l : List UInt8) : (bs l).size = l.length := by simp [bs, ByteArray.size]
theorem bs_append (a b : List UInt8) : bs a ++ bs b = bs (a ++ b) := by
  apply ByteArray.ext; simp [bs, ByteArray.data_append]
theorem bs_extract (a : List UInt8) (i j : Nat) : (bs a).extract i j = bs ((a.take j).drop i) := by
  apply ByteArray.ext
  rw [ByteArray.data_extract]
  apply Array.ext'
  simp [bs, List.drop_take]
theorem bs_toList (a : List UInt8) : (bs a).toList = a := by rw [ByteArray.toList_eq]; simp [bs]
theorem bs_get (l : List UInt8) (k : Nat) (h : k < (bs l).size) : (bs l)[k]'h = l[k]'(by rw [bs_size] at h; exact h) := by
  show (bs l).data[k] = _
  simp [bs]
attribute [go_sem, simp] bs_size bs_append bs_extract bs_toList bs_get
theorem bs_data (a : List UInt8) : (bs a).data.toList = a := by simp [bs]
theorem bs_eta (s : ByteArray) : s = bs s.data.toList := by apply ByteArray.ext; simp [bs]
theorem bs_inj {a b : List UInt8} (h : bs a = bs b) : a = b := by have := congrArg (fun s => s.data.toList) h; simpa [bs] using this
/-- Bytes as cells. -/
def cells (l : List UInt8) : List Value := l.map B
theorem cells_length (l : List UInt8) : (cells l).length = l.length := by simp [cells]
theorem cells_get (l : List UInt8) (j : Nat) (h : j < l.length) : (cells l)[j]? = some (.int .u8 (l[j].toNat : Int)) := by simp [cells, h, B]
theorem cells_set (l : List UInt8) (j : Nat) (c : UInt8) : (cells l).set j (.int .u8 (c.toNat : Int)) = cells (l.set j c) := by simp [cells, List.map_set, B]
theorem madeZ (n : Nat) : (madeCells (Value.cells (.int .u8 0)) (n * 1)).toList = cells (List.replicate n 0) := by
  show (madeCells #[.int .u8 0] (n*1)).toList = _
  rw [toList_madeCells_one]; simp [cells, B]
theorem own_conv {P : Program} {w : World} {b e g n cap : Nat} {l : List UInt8} (s d : TypeId) (h : w.ownsRow b e 1 (.slice (some ⟨g, 0, none⟩) n cap) n (cells l))
    (hs : P.underlying s = some (.slice e)) (he : P.underlying e = some (.int .u8)) (hd : P.underlying d = some .string) :
    (convert s d (.slice (some ⟨g, 0, none⟩) n cap)).run P w = .ok (S l) w := by
  have hl : l.length = n := by have := h.1; rw [cells_length] at this; omega
  subst hl
  refine run_convert_bytes_back w s d e ⟨g,0,none⟩ cap l hs he hd fun j hj => ?_
  have := h.cellAt j (by omega)
  rw [cells_get _ _ hj] at this
  rw [← this]; simp only [Addr.add]; split <;> simp_all
/-- The world w' has new blocks at the most. -/
abbrev Pu (w w' : World) : Prop := Below w.heap.size w w'
theorem Pu.trans {a b c : World} (h : Pu a b) (k : Pu b c) : Pu a c := Below.trans h (Below.mono k h.size)
theorem Pu.alloc {a b : World} (h : Pu a b) (o : Obj) : Pu a (b.alloc o) := Below.alloc h h.size o
theorem Pu.cell {a b : World} (h : Pu a b) (k o : Nat) (hk : k < a.heap.size) : b.cell? ⟨k, o, none⟩ = a.cell? ⟨k, o, none⟩ := Below.cell h (p := ⟨k,o,none⟩) hk
theorem Pu.frozen {a b : World} (h : Pu a b) (k o : Nat) (hk : k < a.heap.size) : b.frozen? ⟨k, o, none⟩ = a.frozen? ⟨k, o, none⟩ := Below.frozen h (p := ⟨k,o,none⟩) hk
theorem ret_int {k : IntKind} {a b : Int} (h : a = b) : Ending.returned (.int k a) = .returned (.int k b) := by rw [h]
theorem ret_bool {a : Bool} (h : a = true) : Ending.returned (.bool a) = .returned (.bool true) := by rw [h]
theorem ret_str {a b : List UInt8} (h : a = b) : Ending.returned (S a) = .returned (S b) := by rw [h]

/-- Block g is a row of cells of type e which begin with xs; none of these is frozen. -/
def Row (w : World) (g : Nat) (e : TypeId) (xs : List Value) : Prop :=
  ∃ (c : Array Value) (fr : Nat × Nat), w.heap[g]? = some (.cells c e fr) ∧ c.toList.take xs.length = xs ∧ (fr.1 = fr.2 ∨ xs.length ≤ fr.1)
theorem Row.lt {w : World} {g : Nat} {e : TypeId} {xs : List Value} (h : Row w g e xs) : g < w.heap.size := by
  obtain ⟨c, fr, h, _⟩ := h
  exact (Array.getElem?_eq_some_iff.1 h).1
theorem take_get {α : Type} {c xs : List α} (h : c.take xs.length = xs) (j : Nat) (hj : j < xs.length) : c[j]? = xs[j]? := by
  have : xs[j]? = (c.take xs.length)[j]? := by rw [h]
  rw [this, List.getElem?_take, if_pos hj]
theorem Row.cell {w : World} {g : Nat} {e : TypeId} {xs : List Value} (h : Row w g e xs) (j : Nat) (hj : j < xs.length) : w.cell? ⟨g, j, none⟩ = some xs[j] := by
  obtain ⟨c, fr, hg, hc, _⟩ := h
  simp only [World.cell?, hg]
  have := take_get hc j hj
  simp at this ⊢
  rw [this, List.getElem?_eq_getElem hj]
theorem Row.cell' {w : World} {g : Nat} {e : TypeId} {xs : List Value} (h : Row w g e xs) (j : Nat) (hj : j < xs.length) : w.cell? ⟨g, j, none⟩ = xs[j]? := by
  rw [h.cell j hj, List.getElem?_eq_getElem hj]
theorem Row.frozen {w : World} {g : Nat} {e : TypeId} {xs : List Value} (h : Row w g e xs) (j : Nat) (hj : j < xs.length) : w.frozen? ⟨g, j, none⟩ = false := by
  obtain ⟨c, fr, hg, hc, hf⟩ := h
  simp only [World.frozen?, hg]
  simp; omega
theorem Row.set {w : World} {g : Nat} {e : TypeId} {xs : List Value} (h : Row w g e xs) (j : Nat) (v : Value) : Row (w.setCell ⟨g, j, none⟩ v) g e (xs.set j v) := by
  obtain ⟨c, fr, hg, hc, hf⟩ := h
  refine ⟨c.setIfInBounds j v, fr, ?_, ?_, by simpa using hf⟩
  · simp only [World.setCell, Array.getElem?_modify, if_pos, hg]; simp
  · rw [List.length_set, Array.toList_setIfInBounds, List.take_set, hc]
theorem Row.other {w w' : World} {g : Nat} {e : TypeId} {xs : List Value} (h : Row w g e xs) (hb : w'.heap[g]? = w.heap[g]?) : Row w' g e xs := by
  obtain ⟨c, fr, hg, r⟩ := h
  exact ⟨c, fr, by rw [hb, hg], r⟩
theorem Row.below {B : Nat} {w w' : World} {g : Nat} {e : TypeId} {xs : List Value} (h : Row w g e xs) (hb : Below B w w') (hg : g < B) : Row w' g e xs := h.other (hb.block g hg)
theorem Row.pu {w w' : World} {g : Nat} {e : TypeId} {xs : List Value} (h : Row w g e xs) (hb : Pu w w') : Row w' g e xs := h.other (hb.block g h.lt)
theorem Row.setOther {w : World} {g : Nat} {e : TypeId} {xs : List Value} (h : Row w g e xs) (a : Addr) (v : Value) (hne : g ≠ a.block) : Row (w.setCell a v) g e xs := h.other (Below.heap_setCell _ _ _ _ hne)
theorem Row.alloc {w : World} {g : Nat} {e : TypeId} {xs : List Value} (h : Row w g e xs) (o : Obj) : Row (w.alloc o) g e xs := h.other (Below.heap_alloc _ _ _ h.lt)
theorem Row.drew {w : World} {g : Nat} {e : TypeId} {xs : List Value} (h : Row w g e xs) : Row w.drew g e xs := h
theorem Row.new (w : World) (c : Array Value) (e : TypeId) : Row (w.alloc (.cells c e)) w.heap.size e c.toList :=
  ⟨c, (0, 0), by show (w.heap.push _)[w.heap.size]? = _; simp, List.take_of_length_le (by simp), .inl rfl⟩
theorem Row.take {w : World} {g : Nat} {e : TypeId} {xs : List Value} (h : Row w g e xs) (n : Nat) : Row w g e (xs.take n) := by
  obtain ⟨c, fr, hg, hc, hf⟩ := h
  refine ⟨c, fr, hg, ?_, ?_⟩
  · conv => rhs; rw [← hc]
    rw [List.take_take, List.length_take]
  · rw [List.length_take]; omega
theorem Row.left {w : World} {g : Nat} {e : TypeId} {xs ys : List Value} (h : Row w g e (xs ++ ys)) : Row w g e xs := by
  have := h.take xs.length; simpa using this
theorem Row.own {w : World} {b e g n cap : Nat} {xs : List Value} (h : w.ownsRow b e 1 (.slice (some ⟨g, 0, none⟩) n cap) n xs) : Row w g e xs := by
  obtain ⟨hl, h⟩ := h
  rcases h with ⟨h', _⟩ | ⟨g', cap', cur, h', _, hg, _, _, _, htake⟩
  · simp at h'
  · simp only [Value.slice.injEq, Option.some.injEq, Addr.mk.injEq, and_true, true_and] at h'
    obtain ⟨rfl, rfl⟩ := h'
    exact ⟨cur, (0,0), hg, by rw [hl]; exact htake, .inl rfl⟩

theorem Row.byte {w : World} {g : Nat} {e : TypeId} {l : List UInt8} (h : Row w g e (cells l)) (j : Nat) (hj : j < l.length) : w.cell? ⟨g, j, none⟩ = some (.int .u8 (l[j].toNat : Int)) := by
  have := h.cell j (by rw [cells_length]; exact hj)
  simpa [cells, B] using this
theorem Row.conv {P : Program} {w : World} {e g n cap : Nat} {l : List UInt8} (s d : TypeId) (h : Row w g e (cells l)) (hn : n = l.length)
    (hs : P.underlying s = some (.slice e)) (he : P.underlying e = some (.int .u8)) (hd : P.underlying d = some .string) :
    (convert s d (.slice (some ⟨g, 0, none⟩) n cap)).run P w = .ok (S l) w := by
  subst hn
  refine run_convert_bytes_back w s d e ⟨g,0,none⟩ cap l hs he hd fun j hj => ?_
  have := h.cell j (by rw [cells_length]; exact hj)
  simp only [cells, List.getElem_map, B] at this
  rw [← this]; simp only [Addr.add]; split <;> simp_all

theorem Row.bytes (w : World) (s : List UInt8) (cap : Nat) (e : TypeId) : Row (w.drew.alloc (.cells (bytesRow (bs s) cap) e ((bytesRow (bs s) cap).size, (bytesRow (bs s) cap).size + 1))) w.heap.size e (cells s) := by
  refine ⟨_, _, (by show (w.heap.push _)[w.heap.size]? = _; exact Array.getElem?_push_size), ?_, .inr ?_⟩
  · rw [cells_length]
    simp [bytesRow, cells, bs]
    exact fun _ _ => rfl
  · simp [bytesRow, cells_length, bs]
/-- '[]byte(s)': a new row that begins with s. -/
theorem wpList_bytes {P : Program} (w : World) {ops : Array Oper} {rest : List Oper} {o : Oper} {a : Act} {Q : Exit → Act → World → Prop}
    (hg : o.guard = none) (x : Operand) (src dst e : TypeId) (hop : o.op = Op.convert src dst x) (l : List UInt8) (hx : a.eval x = S l)
    (hs : P.underlying src = some .string) (hd : P.underlying dst = some (.slice e)) (he : P.underlying e = some (.int .u8))
    (hK : ∀ w' cap, Row w' w.heap.size e (cells l) → Pu w w' → l.length ≤ cap → wpList P ops Q rest (a.put o.dst (.slice (some ⟨w.heap.size, 0, none⟩) l.length cap)) w') :
    wpList P ops Q (o :: rest) a w := by
  refine wpList_plain hg fun K hK' => ?_
  have hrun := run_bytes_of_string (P := P) w src dst e (bs l) hs hd he
  unfold Oper.wp
  simp [execOp, hop, hx, hrun, Result.andThen]
  refine hK' _ _ (hK _ _ (Row.bytes w l _ e) ?_ ?_)
  · exact ((Below.refl _ _).drew).alloc (Nat.le_refl _) _
  · exact grownCap_ge _ _ _ _
theorem run_callFunc_body {P : Program} {f : FuncId} {fn : Func} (hf : P.funcs[f]? = some fn) (hn : (fn.name == "runtime.NumGoroutine") = false) (hb : fn.body.isNone = false) (args : Array Value) (w : World) :
    (callFunc f args).run P w = .ok (.enter f args) w := by
  have hb' : fn.body ≠ none := by intro h; rw [h] at hb; cases hb
  have hn' : fn.name ≠ "runtime.NumGoroutine" := by simpa using hn
  simp [callFunc, go_sem, hf, hn', hb']
end Go.Esc
namespace Go.Esc
open Go Go.RowKit
/-- w' is w but for the cells of block g. -/
structure Chg (g : Nat) (w w' : World) : Prop where
  os : w'.os = w.os
  tape : w'.tape = w.tape
  output : w'.output = w.output
  size : w'.heap.size = w.heap.size
  block : ∀ k, k ≠ g → w'.heap[k]? = w.heap[k]?
theorem Chg.refl (g : Nat) (w : World) : Chg g w w := ⟨rfl, rfl, rfl, rfl, fun _ _ => rfl⟩
theorem Chg.set (w : World) (g o : Nat) (v : Value) : Chg g w (w.setCell ⟨g, o, none⟩ v) :=
  ⟨rfl, rfl, rfl, by simp [World.setCell], fun k hk => Below.heap_setCell _ _ _ _ hk⟩
theorem Chg.trans {g : Nat} {a b c : World} (h : Chg g a b) (k : Chg g b c) : Chg g a c :=
  ⟨k.os.trans h.os, k.tape.trans h.tape, k.output.trans h.output, k.size.trans h.size, fun i hi => (k.block i hi).trans (h.block i hi)⟩
theorem Chg.setCells (g : Nat) : ∀ (vs : List Value) (o : Nat) (w : World), Chg g w (w.setCells g o vs)
  | [], _, w => Chg.refl g w
  | v :: r, o, w => (Chg.set w g o v).trans (Chg.setCells g r (o+1) _)
theorem Chg.below {B g : Nat} {a w w' : World} (h : Below B a w) (k : Chg g w w') (hg : B ≤ g) : Below B a w' :=
  h.trans ⟨k.os, k.tape, k.output, Nat.le_of_eq k.size.symm, fun i hi => k.block i (by omega)⟩
theorem Chg.row {g k : Nat} {w w' : World} (h : Chg g w w') {e : TypeId} {xs : List Value} (hr : Row w k e xs) (hk : k ≠ g) : Row w' k e xs := hr.other (h.block k hk)
/-- xs with vs from place o on. -/
def splice (xs : List Value) (o : Nat) : List Value → List Value
  | [] => xs
  | v :: r => splice (xs.set o v) (o + 1) r
theorem splice_length (vs : List Value) : ∀ (xs : List Value) (o : Nat), (splice xs o vs).length = xs.length := by
  induction vs with
  | nil => intro _ _; rfl
  | cons v r ih => intro xs o; rw [splice, ih, List.length_set]
theorem splice_eq (vs : List Value) : ∀ (xs : List Value) (o : Nat), o + vs.length ≤ xs.length → splice xs o vs = xs.take o ++ vs ++ xs.drop (o + vs.length) := by
  induction vs with
  | nil => intro xs o h; simp [splice]
  | cons v r ih =>
    intro xs o h
    simp only [List.length_cons] at h
    have ho : o < xs.length := by omega
    have e1 : (xs.set o v).take (o+1) = xs.take o ++ [v] := by
      apply List.ext_getElem?
      intro k
      simp only [List.getElem?_take, List.getElem?_append, List.getElem?_set, List.length_take]
      by_cases h1 : k < o
      · simp [h1, show k < o + 1 by omega, show o ≠ k by omega, show k < min o xs.length by omega]
      · by_cases h2 : k = o
        · subst h2; simp [ho, show min k xs.length = k by omega]
        · obtain ⟨j, rfl⟩ : ∃ j, k = o + 1 + j := ⟨k - o - 1, by omega⟩
          rw [if_neg (by omega), if_neg (by omega)]; simp [show min o xs.length = o by omega, show o + 1 + j - o = j + 1 by omega]
    have e2 : (xs.set o v).drop (o + 1 + r.length) = xs.drop (o + (r.length + 1)) := by
      apply List.ext_getElem?
      intro k
      simp only [List.getElem?_drop]
      rw [List.getElem?_set_ne (by omega), show o + 1 + r.length + k = o + (r.length + 1) + k by omega]
    rw [splice, ih _ _ (by simp; omega), e1, e2, List.length_cons]; simp
theorem splice_all {xs vs : List Value} (h : vs.length = xs.length) : splice xs 0 vs = vs := by
  rw [splice_eq _ _ _ (by omega)]; simp [h]
theorem Row.setCells {g : Nat} {e : TypeId} : ∀ (vs : List Value) (o : Nat) (w : World) (xs : List Value), Row w g e xs → Row (w.setCells g o vs) g e (splice xs o vs)
  | [], _, _, _, h => h
  | v :: r, o, _, _, h => Row.setCells r (o+1) _ _ (h.set o v)
theorem take_drop_get {α : Type} (xs : List α) (o n j : Nat) (v : α) (h : ((xs.drop o).take n)[j]? = some v) : xs[o + j]? = some v := by
  rw [List.getElem?_take] at h
  split at h
  · rwa [List.getElem?_drop] at h
  · cases h
/-- A whole value read out of a row. -/
theorem Row.load {P : Program} {w : World} {g : Nat} {e : TypeId} {xs : List Value} (h : Row w g e xs) (ty : TypeId) {d : TypeDesc} (o n : Nat)
    (hu : P.underlying ty = some d) (hd : (match d with | .struct _ | .array _ _ => true | _ => false) = true) (hi : (P.info? ty).map (·.size) = some n) (hn : o + n ≤ xs.length) :
    (loadVar ty ⟨g, o, none⟩).run P w = .ok (.agg ((xs.drop o).take n).toArray) w := by
  have hlen : ((xs.drop o).take n).length = n := by simp; omega
  have hl : (loadCells ⟨g, o, none⟩ ((xs.drop o).take n).length).run P w = .ok ((xs.drop o).take n).toArray w :=
    run_loadCells_list (P := P) w ⟨g, o, none⟩ _ (fun j v hv => by
      have hadd : (⟨g, o, none⟩ : Addr).add j = ⟨g, o + j, none⟩ := by unfold Addr.add; split <;> simp_all
      have hv2 := take_drop_get _ _ _ _ _ hv
      obtain ⟨hj, rfl⟩ := List.getElem?_eq_some_iff.1 hv2
      rw [hadd, h.cell _ hj])
  cases hq : P.info? ty with
  | none => simp [hq] at hi
  | some i =>
    have hs : i.size = n := by simpa [hq] using hi
    have hagg : (isAgg ty).run P w = .ok true w := by
      unfold isAgg
      rw [Sem.run_bind, run_underlying hu w]
      cases d <;> simp_all
    rw [hlen] at hl
    simp [loadVar, Sem.run_bind, hagg, sizeOf, typeInfo, hq, hs, hl]
theorem Row.loadAll {P : Program} {w : World} {g : Nat} {e : TypeId} {xs : List Value} (h : Row w g e xs) (ty : TypeId) {d : TypeDesc}
    (hu : P.underlying ty = some d) (hd : (match d with | .struct _ | .array _ _ => true | _ => false) = true) (hi : (P.info? ty).map (·.size) = some xs.length) :
    (loadVar ty ⟨g, 0, none⟩).run P w = .ok (.agg xs.toArray) w := by
  have := h.load (P := P) ty 0 xs.length hu hd hi (by omega)
  simpa using this
/-- A whole value written into a row. -/
theorem Row.store {P : Program} {w : World} {g : Nat} {e : TypeId} {xs : List Value} (h : Row w g e xs) (ty : TypeId) (o : Nat) (vs : List Value)
    (hi : (P.info? ty).map (·.size) = some vs.length) (hn : o + vs.length ≤ xs.length) (h1 : vs.all (·.oneCell') = true) :
    (storeVar ty ⟨g, o, none⟩ (.agg vs.toArray)).run P w = .ok () (w.setCells g o vs) := by
  have := run_storeCells_cells (P := P) g o vs 0 w (fun j hj => by rw [Nat.add_zero, h.cell (o + j) (by omega)]; rfl) (fun j hj => by rw [Nat.add_zero]; exact h.frozen (o + j) (by omega)) (fun v hv => List.all_eq_true.1 h1 v hv)
  cases hq : P.info? ty with
  | none => simp [hq] at hi
  | some i =>
    have hs : vs.length = i.size := by simp [hq] at hi; omega
    simp [storeVar, sizeOf, typeInfo, hq, Value.cells, hs, this]
section
variable {P : Program} {ops : Array Oper} {rest : List Oper} {o : Oper} {a : Act} {w : World} {Q : Exit → Act → World → Prop}
theorem wpList_store_part (hgd : o.guard = none) (ty : TypeId) (x y : Operand) (ho : o.op = .store ty x y)
    (g off : Nat) (vs : List Value) (hx : a.eval x = .pointer (some ⟨g, off, none⟩)) (hy : a.eval y = .agg vs.toArray)
    {e : TypeId} {xs : List Value} (hr : Row w g e xs) (hi : (P.info? ty).map (·.size) = some vs.length)
    (hn : off + vs.length ≤ xs.length) (h1 : vs.all (·.oneCell') = true)
    (h : ∀ w', Row w' g e (splice xs off vs) → Chg g w w' → wpList P ops Q rest (a.put o.dst undef) w') : wpList P ops Q (o :: rest) a w := by
  refine wpList_plain hgd fun K hK => ?_
  unfold Oper.wp execOp
  simp only [ho, hx, hy, Instr.storeAt, Instr.sureAddr, Sem.run_bind, Sem.run_pure, Result.andThen_ok, hr.store ty off vs hi hn h1]
  exact hK _ _ (h _ (Row.setCells vs off w xs hr) (Chg.setCells g vs off w))
theorem wpList_load_part (hgd : o.guard = none) (ty : TypeId) (x : Operand) (ho : o.op = .load ty x)
    (g off n : Nat) (hx : a.eval x = .pointer (some ⟨g, off, none⟩)) {d : TypeDesc}
    {e : TypeId} {xs : List Value} (hr : Row w g e xs) (hu : P.underlying ty = some d) (hd : (match d with | .struct _ | .array _ _ => true | _ => false) = true) (hi : (P.info? ty).map (·.size) = some n)
    (hn : off + n ≤ xs.length)
    (h : wpList P ops Q rest (a.put o.dst (.agg ((xs.drop off).take n).toArray)) w) : wpList P ops Q (o :: rest) a w := by
  refine wpList_plain hgd fun K hK => ?_
  unfold Oper.wp execOp
  simp only [ho, hx, Instr.loadAt, Instr.sureAddr, Sem.run_bind, Sem.run_pure, Result.andThen_ok, hr.load ty off n hu hd hi hn]
  exact hK _ _ h
theorem results_row {fn : Func} {p : Tmp} {ty : TypeId} (h : fn.results = #[.cell p ty]) (tmps : Array Value) (g : Nat) {e : TypeId} {xs : List Value} {d : TypeDesc}
    (hp : tmps.getD p undef = .pointer (some ⟨g, 0, none⟩)) (hr : Row w g e xs)
    (hu : P.underlying ty = some d) (hd : (match d with | .struct _ | .array _ _ => true | _ => false) = true) (hi : (P.info? ty).map (·.size) = some xs.length) :
    (results fn tmps).run P w = .ok (.agg xs.toArray) w := by
  have hp' : tmps[p]?.getD undef = .pointer (some ⟨g, 0, none⟩) := by simpa using hp
  simp [results, h, hp', asAddr, hr.loadAll ty hu hd hi]
theorem results_cell_eq {fn : Func} {p : Tmp} {ty : TypeId} (h : fn.results = #[.cell p ty]) (tmps : Array Value) (g : Nat) {v : Value} {w w1 : World}
    (hp : tmps.getD p undef = .pointer (some ⟨g, 0, none⟩)) (hl : (loadVar ty ⟨g, 0, none⟩).run P w = .ok v w1) :
    (results fn tmps).run P w = .ok v w1 := by
  have hp' : tmps[p]?.getD undef = .pointer (some ⟨g, 0, none⟩) := by simpa using hp
  simp [results, h, hp', asAddr, hl]
theorem wpList_built (hgd : o.guard = none) (t : TypeId) (parts : Array (Nat × Operand)) (ho : o.op = .build t parts) (l : List Value)
    (hf : P.built t (parts.map fun (i, x) => (i, a.eval x)).toList = some l.toArray)
    (h : wpList P ops Q rest (a.put o.dst (.agg l.toArray)) w) : wpList P ops Q (o :: rest) a w := by
  refine wpList_build hgd t parts ho (by rw [hf]; rfl) ?_
  rw [hf]; exact h
theorem wpList_box (hgd : o.guard = none) (t : TypeId) (x : Operand) (ho : o.op = .box t x) (l : List Value) (hx : a.eval x = .agg l.toArray)
    (h : ∀ w', Row w' w.heap.size t l → Pu w w' → w'.heap.size = w.heap.size + 1 → wpList P ops Q rest (a.put o.dst (.pointer (some ⟨w.heap.size, 0, none⟩))) w') : wpList P ops Q (o :: rest) a w := by
  refine wpList_plain hgd fun K hK => ?_
  unfold Oper.wp execOp
  simp only [ho, hx, Sem.run_bind, Instr.box, newVar, newRow, run_newObj_alloc, Sem.run_pure, Result.andThen_ok, Value.cells]
  exact hK _ _ (h _ (Row.new w l.toArray t) (Pu.alloc (Below.refl _ _) _) (by simp))
/-- 'box': a value of several cells in a block of its own. -/
theorem box_row (w : World) (vs : List Value) (e : TypeId) : Row (w.alloc (.cells vs.toArray e)) w.heap.size e vs := Row.new w vs.toArray e
end
end Go.Esc
namespace Go.Esc
abbrev Wd := BitVec 32
abbrev Bs := List UInt8

def rotl (x : Wd) (k : Nat) : Wd := x <<< k ||| x >>> (32 - k)
def rotr (x : Wd) (k : Nat) : Wd := rotl x ((32 - k % 32) % 32)

/-- the number of bytes, the highest first -/
def beN (l : Bs) : Nat := l.foldl (fun v c => v * 256 + c.toNat) 0
/-- the number of bytes, the lowest first -/
def leN : Bs → Nat
  | [] => 0
  | c :: l => c.toNat + 256 * leN l
/-- n bytes of v, the highest first -/
def putB (v : Nat) : Nat → Bs
  | 0 => []
  | n+1 => UInt8.ofNat (v / 256 ^ n) :: putB v n
/-- n bytes of v, the lowest first -/
def putL (v : Nat) : Nat → Bs
  | 0 => []
  | n+1 => UInt8.ofNat v :: putL (v / 256) n

def kTab : List Wd := [
 0x428a2f98, 0x71374491, 0xb5c0fbcf, 0xe9b5dba5, 0x3956c25b, 0x59f111f1, 0x923f82a4, 0xab1c5ed5,
 0xd807aa98, 0x12835b01, 0x243185be, 0x550c7dc3, 0x72be5d74, 0x80deb1fe, 0x9bdc06a7, 0xc19bf174,
 0xe49b69c1, 0xefbe4786, 0x0fc19dc6, 0x240ca1cc, 0x2de92c6f, 0x4a7484aa, 0x5cb0a9dc, 0x76f988da,
 0x983e5152, 0xa831c66d, 0xb00327c8, 0xbf597fc7, 0xc6e00bf3, 0xd5a79147, 0x06ca6351, 0x14292967,
 0x27b70a85, 0x2e1b2138, 0x4d2c6dfc, 0x53380d13, 0x650a7354, 0x766a0abb, 0x81c2c92e, 0x92722c85,
 0xa2bfe8a1, 0xa81a664b, 0xc24b8b70, 0xc76c51a3, 0xd192e819, 0xd6990624, 0xf40e3585, 0x106aa070,
 0x19a4c116, 0x1e376c08, 0x2748774c, 0x34b0bcb5, 0x391c0cb3, 0x4ed8aa4a, 0x5b9cca4f, 0x682e6ff3,
 0x748f82ee, 0x78a5636f, 0x84c87814, 0x8cc70208, 0x90befffa, 0xa4506ceb, 0xbef9a3f7, 0xc67178f2]
def hTab : List Wd := [0x6a09e667, 0xbb67ae85, 0x3c6ef372, 0xa54ff53a, 0x510e527f, 0x9b05688c, 0x1f83d9ab, 0x5be0cd19]

def word (l : Bs) (i : Nat) : Wd := BitVec.ofNat 32 (beN ((l.drop (4*i)).take 4))

/-- the next word of a schedule, of the words so far -/
def nextW (w : List Wd) (t : Nat) : Wd :=
  let x := w.getD (t-15) 0
  let y := w.getD (t-2) 0
  w.getD (t-16) 0 + (rotr x 7 ^^^ rotr x 18 ^^^ x >>> 3) + w.getD (t-7) 0 + (rotr y 17 ^^^ rotr y 19 ^^^ y >>> 10)
def sched (b : Bs) : Nat → List Wd
  | 0 => []
  | t+1 => let w := sched b t; w ++ [if t < 16 then word b t else nextW w t]

structure St where
  a : Wd
  b : Wd
  c : Wd
  d : Wd
  e : Wd
  f : Wd
  g : Wd
  h : Wd
def St.l (s : St) : List Wd := [s.a, s.b, s.c, s.d, s.e, s.f, s.g, s.h]
def St.of (l : List Wd) : St := ⟨l.getD 0 0, l.getD 1 0, l.getD 2 0, l.getD 3 0, l.getD 4 0, l.getD 5 0, l.getD 6 0, l.getD 7 0⟩
def step (s : St) (k w : Wd) : St :=
  let t1 := s.h + (rotr s.e 6 ^^^ rotr s.e 11 ^^^ rotr s.e 25) + (s.e &&& s.f ^^^ ~~~s.e &&& s.g) + k + w
  let t2 := (rotr s.a 2 ^^^ rotr s.a 13 ^^^ rotr s.a 22) + (s.a &&& s.b ^^^ s.a &&& s.c ^^^ s.b &&& s.c)
  ⟨t1 + t2, s.a, s.b, s.c, s.d + t1, s.e, s.f, s.g⟩
def St.add (s t : St) : St := ⟨s.a + t.a, s.b + t.b, s.c + t.c, s.d + t.d, s.e + t.e, s.f + t.f, s.g + t.g, s.h + t.h⟩
def rounds (w : List Wd) (s : St) (n : Nat) : St := (List.range n).foldl (fun s i => step s (kTab.getD i 0) (w.getD i 0)) s
def comp (s : St) (b : Bs) : St := (rounds (sched b 64) s 64).add s
def initS : St := St.of hTab

/-- whole blocks of l, fuel n -/
def blocks (s : St) (l : Bs) : Nat → St
  | 0 => s
  | n+1 => blocks (comp s (l.take 64)) (l.drop 64) n
def shaPad (n : Nat) : Bs := 0x80 :: List.replicate ((119 - n % 64) % 64) 0 ++ putB (n * 8 % 2^64) 8
def sha (l : Bs) : Bs := let m := l ++ shaPad l.length; (blocks initS m (m.length / 64)).l.flatMap (fun w => putB w.toNat 4)

def hexD : Bs := [48,49,50,51,52,53,54,55,56,57,97,98,99,100,101,102]
def hex (l : Bs) : Bs := l.flatMap fun c => [hexD.getD (c.toNat / 16) 0, hexD.getD (c.toNat % 16) 0]
def str (s : String) : Bs := s.toUTF8.data.toList
set_option maxRecDepth 100000 in
theorem t1 : hex (sha [97,98,99]) = [98,97,55,56,49,54,98,102,56,102,48,49,99,102,101,97,52,49,52,49,52,48,100,101,53,100,97,101,50,50,50,51,98,48,48,51,54,49,97,51,57,54,49,55,55,97,57,99,98,52,49,48,102,102,54,49,102,50,48,48,49,53,97,100] := by decide +kernel
theorem beN_take_succ (l : List UInt8) (k : Nat) (h : k < l.length) : beN (l.take (k+1)) = beN (l.take k) * 256 + l[k].toNat := by
  rw [List.take_succ_eq_append_getElem h, beN, List.foldl_append]; rfl
theorem beN_lt (l : List UInt8) : beN l < 256 ^ l.length := by
  suffices h : ∀ (l : List UInt8) (v : Nat), l.foldl (fun v c => v * 256 + c.toNat) v < (v+1) * 256 ^ l.length by simpa [beN] using h l 0
  intro l
  induction l with
  | nil => intro v; simp
  | cons c l ih =>
    intro v
    simp only [List.foldl_cons, List.length_cons]
    refine Nat.lt_of_lt_of_le (ih _) ?_
    have := c.toNat_lt
    rw [Nat.pow_succ', ← Nat.mul_assoc]
    exact Nat.mul_le_mul_right _ (by omega)
theorem beN_le {l : List UInt8} (h : l.length ≤ 7) : beN l ≤ 72057594037927935 := by
  have := beN_lt l
  have h2 : 256 ^ l.length ≤ 256 ^ 7 := Nat.pow_le_pow_right (by decide) h
  have : beN l < 256 ^ 7 := Nat.lt_of_lt_of_le this h2
  omega
end Go.Esc
set_option linter.unusedSimpArgs false
set_option linter.unusedVariables false
namespace Go.Proofs.YtlbdbmnkjljohaaGreat
open Go.RowKit Go.Esc
theorem infoB : (Tryz.prog.info? 5).map (fun i => (i.zero, i.size, i.bytes)) = some (some (.int .u8 0), 1, 1) := by kernel_rfl

theorem putB_length (v n : Nat) : (putB v n).length = n := by induction n <;> simp [putB, *]
theorem set_big (v m k : Nat) (h : k < m) : (cells (List.replicate (m-k) 0 ++ putB v k)).set (m-1-k) (.int .u8 ((v / 2^(8*k) % 256 : Nat) : Int)) = cells (List.replicate (m-(k+1)) 0 ++ putB v (k+1)) := by
  obtain ⟨j, rfl⟩ : ∃ j, m = k + 1 + j := ⟨m - (k+1), by omega⟩
  have e1 : k + 1 + j - k = j + 1 := by omega
  have e2 : k + 1 + j - 1 - k = j := by omega
  have e3 : k + 1 + j - (k+1) = j := by omega
  rw [e1, e2, e3, List.replicate_succ']
  have : ((v / 2^(8*k) % 256 : Nat) : Int) = ((UInt8.ofNat (v / 256^k)).toNat : Int) := by
    rw [Nat.pow_mul]; simp
  rw [this, cells_set]
  simp [putB]

set_option maxHeartbeats 400000 in
theorem putBig (v : Int) (n : Int) (w : World) (hv : 0 ≤ v) (hn : 1 ≤ n) (hn8 : n ≤ 8) :
    Calls Tryz.prog 108 #[.int .u64 v, .int .i64 n] w fun e w' => e = .returned (S (putB v.toNat n.toNat)) ∧ Pu w w' := by
  obtain ⟨i0, hi, hz0, hz1, hz2⟩ := info_parts infoB
  obtain ⟨m, rfl⟩ := Int.eq_ofNat_of_zero_le (by omega : 0 ≤ n)
  obtain ⟨u, rfl⟩ := Int.eq_ofNat_of_zero_le (by omega : 0 ≤ v)
  have h1 : decide ((m:Int) < 1) = false := by simp; omega
  have h2 : decide ((8:Int) < m) = false := by simp; omega
  go_enter Tryz.func108, Tryz.ntmps108
  go_wp2_with (at_make; refine wpList_make_full _ rfl _ _ 42 rfl w.heap.size 5 i0 (.int .u8 0) 1 Tryz.underlying42 hi hz0 hz1 _ _ _ _ m rfl rfl rfl rfl (by rw [hz2]; omega) (by unfold maxLen; omega) (Nat.le_refl _) ?_; intro w1 hown hgrow)
  go_loopw [17] (fun i wr => ∃ k : Nat, k ≤ m ∧ i = .int .i64 k ∧ wr.ownsRow w.heap.size 5 1 (.slice (some ⟨w.heap.size, 0, none⟩) m m) m (cells (List.replicate (m-k) 0 ++ putB u k)) ∧ Below w.heap.size w wr) (fun i _ => m - (intOf i).toNat)
  case atStart => exact ⟨0, Nat.zero_le _, rfl, by rw [madeZ] at hown; simpa [putB] using hown, (Below.refl _ _).grown hgrow (Nat.le_refl _) (by simp)⟩
  case round =>
    obtain ⟨k, hk, rfl, hown, hbel⟩ := hrel
    by_cases hlt : k < m
    · have hl : (List.replicate (m-k) 0 ++ putB u k).length = m := by simp [putB_length]; omega
      have hc := hown.cellAt (m-1-k) (by omega)
      rw [cells_get _ _ (by omega)] at hc
      have hf := hown.frozenAt (m-1-k)
      have hst := hown.stored (m-1-k) (.int .u8 ((u / 2^(8*k) % 256 : Nat) : Int))
      rw [set_big u m k hlt] at hst
      go_wp2_with fail
      go_roundw
      case rel => exact ⟨k+1, by omega, by go_num, hst.1, hbel.grown hst.2 hbel.size (by simp)⟩
      case measure => simp [intOf]; omega
    · obtain rfl : k = m := by omega
      simp only [Nat.sub_self, List.replicate_zero, List.nil_append] at hown
      have hcv := own_conv (P := Tryz.prog) 42 9 hown Tryz.underlying42 Tryz.underlying5 Tryz.underlying9
      go_wp2_with fail
      go_ret
      exact ⟨rfl, hbel⟩

set_option maxHeartbeats 400000 in
theorem big (l : List UInt8) (w : World) (hl : l.length ≤ 8) :
    Calls Tryz.prog 130 #[S l] w fun e w' => e = .returned (.int .u64 (beN l)) ∧ Pu w w' := by
  by_cases h8 : l.length = 8
  · have ht : l.take 8 = l := List.take_of_length_le (by omega)
    go_enter Tryz.func130, Tryz.ntmps130
    go_wp2_with (refine wpList_bytes _ rfl (.tmp 11) 9 42 5 rfl l (by first | rfl | simp [Act.eval]) Tryz.underlying9 Tryz.underlying42 Tryz.underlying5 ?_; intro w1 cap hrow hpu hcap)
    go_loop [3, 14] (fun v i => ∃ k : Nat, k ≤ 8 ∧ i = .int .i64 k ∧ v = .int .u64 (beN (l.take k))) (fun _ i => 8 - (intOf i).toNat)
    case atStart => exact ⟨0, by omega, rfl, rfl⟩
    case round =>
      obtain ⟨k, hk, rfl, rfl⟩ := hrel
      by_cases hlt : k < 8
      · have hc := hrow.byte k (by omega)
        have hb : beN (l.take k) ≤ 72057594037927935 := beN_le (by simp; omega)
        have hu := l[k].toNat_lt
        go_wp2_with fail
        go_round
        case rel => exact ⟨k+1, by omega, by go_num, by rw [bits_or256 _ _ hb hu, beN_take_succ l k (by omega)]⟩
        case measure => simp [intOf]; omega
      · obtain rfl : k = 8 := by omega
        go_wp2_with fail
        go_ret
        exact ⟨by first | rfl | (rw [List.take_of_length_le (by omega)]; rfl), hpu⟩
  · have ht : l.take l.length = l := List.take_length
    go_enter Tryz.func130, Tryz.ntmps130
    go_wp2_with (refine wpList_bytes _ rfl (.tmp 11) 9 42 5 rfl l (by first | rfl | simp [Act.eval]) Tryz.underlying9 Tryz.underlying42 Tryz.underlying5 ?_; intro w1 cap hrow hpu hcap)
    go_loop [3, 14] (fun v i => ∃ k : Nat, k ≤ l.length ∧ i = .int .i64 k ∧ v = .int .u64 (beN (l.take k))) (fun _ i => l.length - (intOf i).toNat)
    case atStart => exact ⟨0, by omega, rfl, rfl⟩
    case round =>
      obtain ⟨k, hk, rfl, rfl⟩ := hrel
      by_cases hlt : k < l.length
      · have hc := hrow.byte k (by omega)
        have hb : beN (l.take k) ≤ 72057594037927935 := beN_le (by simp; omega)
        have hu := l[k].toNat_lt
        go_wp2_with fail
        go_round
        case rel => exact ⟨k+1, by omega, by go_num, by rw [bits_or256 _ _ hb hu, beN_take_succ l k (by omega)]⟩
        case measure => simp [intOf]; omega
      · obtain rfl : k = l.length := by omega
        go_wp2_with fail
        go_ret
        exact ⟨by first | rfl | (rw [List.take_of_length_le (Nat.le_refl _)]; rfl), hpu⟩
end Go.Proofs.YtlbdbmnkjljohaaGreat
namespace Go.Esc
open Go Go.RowKit
theorem step_append_own {P : Program} {ops : Array Oper} {o : Oper} {a : Act} {w : World} {K : Act → World → Prop} {Q : Exit → Act → World → Prop} {E : Prop}
    (hg : o.guard = none) (s x : Operand) (t : TypeId) (hop : o.op = Op.call { callee := Callee.builtin Builtin.append, args := #[s, x], argTypes := #[t, t] })
    (base : Nat) (e : TypeId) (i : TypeInfo) (z : Value) (size bytes : Nat) (h1 : P.underlying t = some (.slice e)) (h2 : P.info? e = some i) (h3 : i.zero = some z) (h4 : i.size = size) (h5 : i.bytes = bytes) (h6 : z.cells.size = size) (h7 : 0 < size)
    (v : Value) (n : Nat) (xs : List Value) (hs : a.eval s = v) (hown : w.ownsRow base e size v n xs)
    (ad : Addr) (m c : Nat) (news : List Value) (hx : a.eval x = .slice (some ad) m c) (hn : news.length = m * size) (hc : ∀ j u, news[j]? = some u → w.cell? (ad.add j) = some u) (h1c : ∀ u ∈ news, u.oneCell' = true)
    (b1 : n + m ≤ maxLen) (b2 : (n + m) * bytes ≤ 140737488355328) (hbase : base ≤ w.heap.size)
    (hK : ∀ v' w', w'.ownsRow base e size v' (n + m) (xs ++ news) → w.grownBy w' v.ownBlock → K (a.put o.dst v') w') :
    if Region.wanted o (yielded ops a.tmps) = true then Oper.wp P o a w K Q else E := by
  have hw : Region.wanted o (yielded ops a.tmps) = true := by simp [Region.wanted, hg]
  rw [if_pos hw]
  exact wp_append_own w s x t hop base e i z size bytes h1 h2 h3 h4 h5 h6 h7 v n xs hs hown ad m c news hx hn hc h1c b1 b2 hbase fun v' w' a b _ => hK v' w' a b
/-- A value that owns an element shows what it is. -/
theorem own_form {w : World} {base e size : Nat} {v : Value} {n : Nat} {xs : List Value} (h : w.ownsRow base e size v n xs) (hn : 0 < n) : ∃ g cap, v = .slice (some ⟨g, 0, none⟩) n cap ∧ base ≤ g ∧ g < w.heap.size := by
  rcases h.2 with ⟨_, h0⟩ | ⟨g, cap, cur, hv, hb, hg, _⟩
  · omega
  · exact ⟨g, cap, hv, hb, (Array.getElem?_eq_some_iff.1 hg).1⟩
theorem own_slice {w : World} {base e size : Nat} {v : Value} {n : Nat} {xs : List Value} (h : w.ownsRow base e size v n xs) : ∃ (a : Option Addr) (cap : Nat), v = .slice a n cap ∧ (∀ k, v.ownBlock = some k → base ≤ k ∧ k < w.heap.size) := by
  refine (?_ : ∃ (a : Option Addr) (cap : Nat), v = .slice a n cap) |>.elim fun a h1 => h1.elim fun c h2 => ⟨a, c, h2, h.lt⟩
  rcases h.2 with ⟨h0, h1⟩ | ⟨g, cap, cur, hv, _⟩
  · exact ⟨none, 0, by rw [h0, h1]⟩
  · exact ⟨_, cap, hv⟩
theorem Row.grown {w w' : World} {g : Nat} {e : TypeId} {xs : List Value} (h : Row w g e xs) {row : Option Nat} (hg : w.grownBy w' row) (hne : some g ≠ row) : Row w' g e xs := h.other (hg.block g h.lt hne)
theorem grown_row {w w' : World} {row : Option Nat} (hg : w.grownBy w' row) {g : Nat} {e : TypeId} {xs : List Value} (h : Row w g e xs) (hne : some g ≠ row) : Row w' g e xs := h.grown hg hne
end Go.Esc
set_option linter.unusedSimpArgs false
set_option linter.unusedVariables false
namespace Go.Esc
open Go Go.RowKit
theorem and255 (v : Nat) (h : v < 18446744073709551616) : Go.bits .and .u64 (v : Int) 255 = ((v % 256 : Nat) : Int) := by
  rw [show (255 : Int) = ((255 : Nat) : Int) from rfl, u64_and _ _ (by omega) (by omega) (by omega) (by omega)]
  congr 1
  rw [Int.toNat_natCast, Int.toNat_natCast, show (255 : Nat) = 2 ^ 8 - 1 from rfl, Nat.and_two_pow_sub_one_eq_mod]
end Go.Esc
namespace Go.Proofs.YtlbdbmnkjljohaaGreat
open Go.RowKit Go.Esc
set_option maxHeartbeats 800000 in
theorem refPutBig (v : Int) (n : Int) (w : World) (hv : 0 ≤ v) (hv2 : v < 18446744073709551616) (hn : 1 ≤ n) (hn8 : n ≤ 8) :
    Calls Tryz.prog 76 #[.int .u64 v, .int .i64 n] w fun e w' => e = .returned (S (putB v.toNat n.toNat)) ∧ Pu w w' := by
  obtain ⟨i0, hi, hz0, hz1, hz2⟩ := info_parts infoB
  obtain ⟨m, rfl⟩ := Int.eq_ofNat_of_zero_le (by omega : 0 ≤ n)
  obtain ⟨u, rfl⟩ := Int.eq_ofNat_of_zero_le (by omega : 0 ≤ v)
  have h1 : decide ((m:Int) < 1) = false := by simp; omega
  have h2 : decide ((8:Int) < m) = false := by simp; omega
  go_enter Tryz.func76, Tryz.ntmps76
  go_wp2_with (at_make; refine wpList_make_full _ rfl _ _ 42 rfl w.heap.size 5 i0 (.int .u8 0) 1 Tryz.underlying42 hi hz0 hz1 _ _ _ _ m rfl rfl rfl rfl (by rw [hz2]; omega) (by unfold maxLen; omega) (Nat.le_refl _) ?_; intro w1 hown hgrow)
  go_loopw [0, 6] (fun x i wr => ∃ k : Nat, k ≤ m ∧ x = .int .u64 ((u / 256 ^ k : Nat) : Int) ∧ i = .int .i64 ((m : Int) - 1 - k) ∧ wr.ownsRow w.heap.size 5 1 (.slice (some ⟨w.heap.size, 0, none⟩) m m) m (cells (List.replicate (m-k) 0 ++ putB u k)) ∧ Below w.heap.size w wr) (fun _ i _ => (intOf i + 1).toNat)
  case atStart => exact ⟨0, Nat.zero_le _, by simp, by go_num, by rw [madeZ] at hown; simpa [putB] using hown, (Below.refl _ _).grown hgrow (Nat.le_refl _) (by simp)⟩
  case round =>
    obtain ⟨k, hk, rfl, rfl, hown, hbel⟩ := hrel
    by_cases hlt : k < m
    · have hl : (List.replicate (m-k) 0 ++ putB u k).length = m := by simp [putB_length]; omega
      obtain ⟨p, hpp⟩ : ∃ p, p = m - 1 - k := ⟨_, rfl⟩
      have hpm : p < m := by omega
      have hpl : p < (List.replicate (m-k) 0 ++ putB u k).length := by omega
      have HPP := Lib.hid hpp
      have hpi : (m : Int) - 1 - k = (p : Int) := by omega
      have hse : (cells (List.replicate (m-k) 0 ++ putB u k)).set p (.int .u8 ((u / 2^(8*k) % 256 : Nat) : Int)) = cells (List.replicate (m-(k+1)) 0 ++ putB u (k+1)) := by rw [hpp]; exact set_big u m k hlt
      clear hpp
      have hc := hown.cellAt p (by rw [Nat.mul_one]; exact hpm)
      rw [cells_get _ _ hpl] at hc
      have hf := hown.frozenAt p
      have hst := hown.stored p (.int .u8 ((u / 2^(8*k) % 256 : Nat) : Int))
      rw [hse] at hst
      clear hse
      obtain ⟨y, hy⟩ : ∃ y, y = u / 256 ^ k := ⟨_, rfl⟩
      have hyl : y < 18446744073709551616 := by rw [hy]; exact Nat.lt_of_le_of_lt (Nat.div_le_self _ _) (by omega)
      have hp : u / 2 ^ (8*k) = y := by rw [hy, Nat.pow_mul]
      have hn : u / 256 ^ (k+1) = y / 256 := by rw [hy, Nat.pow_succ, Nat.div_div_eq_div_mul]
      rw [hp] at hst
      rw [← hy]
      have ha := and255 y hyl
      have hw : IntKind.u8.wrap ((y % 256 : Nat) : Int) = ((y % 256 : Nat) : Int) := by rw [IntKind.wrap_u8]; omega
      have hq : ((y : Int)).tdiv 256 = ((y / 256 : Nat) : Int) := by rw [Int.tdiv_eq_ediv_of_nonneg (by omega)]; omega
      have hpm' : (p : Int) < m := by omega
      have hp0 : (0 : Int) ≤ p := by omega
      have hi4 : IntKind.i64.wrap ((p : Int) - 1) = p - 1 := by rw [IntKind.wrap_i64]; omega
      rw [hpi]
      obtain ⟨r, hr⟩ : ∃ r, r = y % 256 := ⟨_, rfl⟩
      obtain ⟨q, hq2⟩ : ∃ q, q = y / 256 := ⟨_, rfl⟩
      rw [← hr] at ha hw hst
      rw [← hq2] at hq hn
      have hr256 : r < 256 := by omega
      have hql : IntKind.u64.wrap (q : Int) = q := by rw [IntKind.wrap_u64]; omega
      have HN := Lib.hid hn
      clear hy hp hn hr hq2 hv2 hyl hpi
      go_wp2_with fail
      go_roundw
      case rel => exact ⟨k+1, by omega, by rw [HN.out], by have := HPP.out; rw [show (m : Int) - 1 - ((k+1 : Nat) : Int) = (p : Int) - 1 by omega], hst.1, hbel.grown hst.2 hbel.size (by simp)⟩
      case measure => first | (simp [intOf]; done) | (simp [intOf]; omega)
    · obtain rfl : k = m := by omega
      simp only [Nat.sub_self, List.replicate_zero, List.nil_append] at hown
      have hcv := own_conv (P := Tryz.prog) 42 9 hown Tryz.underlying42 Tryz.underlying5 Tryz.underlying9
      obtain ⟨y, hy⟩ : ∃ y, y = u / 256 ^ k := ⟨_, rfl⟩
      rw [← hy]
      have hneg : decide ((0 : Int) ≤ (k : Int) - 1 - k) = false := by simp; omega
      have hneg2 : ¬ ((0 : Int) ≤ (k : Int) - 1 - k) := by omega
      have hneg3 : (k : Int) - 1 - k = -1 := by omega
      clear hy
      go_wp2_with fail
      go_ret
      exact ⟨rfl, hbel⟩
set_option maxHeartbeats 800000 in
theorem refBig (l : List UInt8) (w : World) (hl : l.length ≤ 8) :
    Calls Tryz.prog 77 #[S l] w fun e w' => e = .returned (.int .u64 (beN l)) ∧ w' = w := by
  have hm0 : IntKind.i64.wrap ((l.length : Int) - 8) = l.length - 8 := by rw [IntKind.wrap_i64]; omega
  have hm1 : max ((l.length : Int) - 8) 0 = 0 := by omega
  by_cases h8 : l.length = 8
  · have hx : (l.length : Int) - 8 = 0 := by omega
    clear hm1
    go_enter Tryz.func77, Tryz.ntmps77
    go_wp2_with fail
    go_loop [3, 4] (fun v i => ∃ k : Nat, k ≤ l.length ∧ i = .int .i64 k ∧ v = .int .u64 (beN (l.take k))) (fun _ i => l.length - (intOf i).toNat)
    case atStart => exact ⟨0, by omega, rfl, rfl⟩
    case round =>
      obtain ⟨k, hk, rfl, rfl⟩ := hrel
      by_cases hlt : k < l.length
      · have hb : beN (l.take k) ≤ 72057594037927935 := beN_le (by simp; omega)
        have hs := beN_take_succ l k hlt
        obtain ⟨x, hx⟩ : ∃ x, x = beN (l.take k) := ⟨_, rfl⟩
        obtain ⟨c, hc⟩ : ∃ c, l[k] = c := ⟨_, rfl⟩
        have hu := c.toNat_lt
        rw [← hx] at hb hs
        rw [hc] at hs
        rw [← hx]
        have q1 : IntKind.u64.wrap ((x : Int) * 256) = x * 256 := by rw [IntKind.wrap_u64]; omega
        have q2 : IntKind.u64.wrap ((x : Int) * 256 + c.toNat) = x * 256 + c.toNat := by rw [IntKind.wrap_u64]; omega
        have q3 : IntKind.u64.wrap (c.toNat : Int) = c.toNat := by rw [IntKind.wrap_u64]; omega
        have HS := Lib.hid hs
        clear hx hs
        go_wp2_with fail
        go_round
        case rel => exact ⟨k+1, by omega, by go_num, by rw [HS.out]; rfl⟩
        case measure => simp [intOf]; omega
      · obtain rfl : k = l.length := by omega
        go_wp2_with fail
        go_ret
        exact ⟨by first | rfl | (rw [List.take_of_length_le (by omega)]; rfl), rfl⟩
  · have hx : (l.length : Int) - 8 < 0 := by omega
    clear hm1
    go_enter Tryz.func77, Tryz.ntmps77
    go_wp2_with fail
    go_loop [3, 4] (fun v i => ∃ k : Nat, k ≤ l.length ∧ i = .int .i64 k ∧ v = .int .u64 (beN (l.take k))) (fun _ i => l.length - (intOf i).toNat)
    case atStart => exact ⟨0, by omega, rfl, rfl⟩
    case round =>
      obtain ⟨k, hk, rfl, rfl⟩ := hrel
      by_cases hlt : k < l.length
      · have hb : beN (l.take k) ≤ 72057594037927935 := beN_le (by simp; omega)
        have hs := beN_take_succ l k hlt
        obtain ⟨x, hx⟩ : ∃ x, x = beN (l.take k) := ⟨_, rfl⟩
        obtain ⟨c, hc⟩ : ∃ c, l[k] = c := ⟨_, rfl⟩
        have hu := c.toNat_lt
        rw [← hx] at hb hs
        rw [hc] at hs
        rw [← hx]
        have q1 : IntKind.u64.wrap ((x : Int) * 256) = x * 256 := by rw [IntKind.wrap_u64]; omega
        have q2 : IntKind.u64.wrap ((x : Int) * 256 + c.toNat) = x * 256 + c.toNat := by rw [IntKind.wrap_u64]; omega
        have q3 : IntKind.u64.wrap (c.toNat : Int) = c.toNat := by rw [IntKind.wrap_u64]; omega
        have HS := Lib.hid hs
        clear hx hs
        go_wp2_with fail
        go_round
        case rel => exact ⟨k+1, by omega, by go_num, by rw [HS.out]; rfl⟩
        case measure => simp [intOf]; omega
      · obtain rfl : k = l.length := by omega
        go_wp2_with fail
        go_ret
        exact ⟨by first | rfl | (rw [List.take_of_length_le (by omega)]; rfl), rfl⟩
end Go.Proofs.YtlbdbmnkjljohaaGreat
