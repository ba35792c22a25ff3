/- Values, worlds and bytes: lemmas over whatever program. -/
import Derived.WalkKit
import Derived.Laws.BitsAllLaws
namespace Go.Esc
open Go Go.RowKit
/-- A word of 32 bits as a value. -/
def W (x : BitVec 32) : Value := .int .u32 (x.toNat : Int)
/-- A word of 64 bits as a value. -/
def D (x : BitVec 64) : Value := .int .u64 (x.toNat : Int)
/-- A byte as a value. -/
def B (x : UInt8) : Value := .int .u8 (x.toNat : Int)

section
variable {P : Program}
theorem ofIntNat (n : Nat) (x : BitVec n) : BitVec.ofInt n (x.toNat : Int) = x := by
  apply BitVec.eq_of_toInt_eq; simp [BitVec.toInt_eq_toNat_bmod]
theorem wrapW (n : Int) : Value.int .u32 (IntKind.u32.wrap n) = W (BitVec.ofInt 32 n) := by
  simp only [W]; rw [IntKind.wrap_u32, BitVec.toNat_ofInt]; congr 1; omega
theorem wrapD (n : Int) : Value.int .u64 (IntKind.u64.wrap n) = D (BitVec.ofInt 64 n) := by
  simp only [D]; rw [IntKind.wrap_u64, BitVec.toNat_ofInt]; congr 1; omega
theorem inW (n : Nat) (h : n < 2^32) : Value.int .u32 (n : Int) = W (BitVec.ofNat 32 n) := by
  simp only [W, BitVec.toNat_ofNat]; rw [Nat.mod_eq_of_lt h]

theorem run_addW (T : TypeId) (a b : BitVec 32) (w : World) : (binOp .add T (W a) (W b)).run P w = .ok (W (a + b)) w := by
  show (Sem.pure (Value.int .u32 (IntKind.u32.wrap (_ + _)))).run P w = _
  rw [wrapW, BitVec.ofInt_add, ofIntNat, ofIntNat]; rfl
theorem run_subW (T : TypeId) (a b : BitVec 32) (w : World) : (binOp .sub T (W a) (W b)).run P w = .ok (W (a - b)) w := by
  show (Sem.pure (Value.int .u32 (IntKind.u32.wrap (_ - _)))).run P w = _
  rw [wrapW, Int.sub_eq_add_neg, BitVec.ofInt_add, BitVec.ofInt_neg, ofIntNat, ofIntNat, ← BitVec.sub_eq_add_neg]; rfl
theorem wrapNatW (x : BitVec 32) : Value.int .u32 (IntKind.u32.wrap (x.toNat : Int)) = W x := by rw [wrapW, ofIntNat]
theorem wrapNatD (x : BitVec 64) : Value.int .u64 (IntKind.u64.wrap (x.toNat : Int)) = D x := by rw [wrapD, ofIntNat]
theorem run_xorW (T : TypeId) (a b : BitVec 32) (w : World) : (binOp .xor T (W a) (W b)).run P w = .ok (W (a ^^^ b)) w := by
  show (Sem.pure (Value.int .u32 (IntKind.u32.wrap ((BitVec.ofInt 32 (a.toNat : Int) ^^^ BitVec.ofInt 32 (b.toNat : Int)).toNat : Int)))).run P w = _
  rw [wrapNatW, ofIntNat, ofIntNat]; rfl
theorem run_andW (T : TypeId) (a b : BitVec 32) (w : World) : (binOp .and T (W a) (W b)).run P w = .ok (W (a &&& b)) w := by
  show (Sem.pure (Value.int .u32 (IntKind.u32.wrap ((BitVec.ofInt 32 (a.toNat : Int) &&& BitVec.ofInt 32 (b.toNat : Int)).toNat : Int)))).run P w = _
  rw [wrapNatW, ofIntNat, ofIntNat]; rfl
theorem run_orW (T : TypeId) (a b : BitVec 32) (w : World) : (binOp .or T (W a) (W b)).run P w = .ok (W (a ||| b)) w := by
  show (Sem.pure (Value.int .u32 (IntKind.u32.wrap ((BitVec.ofInt 32 (a.toNat : Int) ||| BitVec.ofInt 32 (b.toNat : Int)).toNat : Int)))).run P w = _
  rw [wrapNatW, ofIntNat, ofIntNat]; rfl
theorem run_notW (a : BitVec 32) (w : World) : (Op.unary .xor (W a)).run P w = .ok (W (~~~a)) w := by
  show (Sem.pure (Value.int .u32 (IntKind.u32.wrap ((BitVec.ofInt 32 (4294967295 : Int) ^^^ BitVec.ofInt 32 (a.toNat : Int)).toNat : Int)))).run P w = _
  rw [wrapNatW, ofIntNat]
  have : BitVec.ofInt 32 4294967295 = BitVec.allOnes 32 := by decide
  rw [this, BitVec.allOnes_xor]; rfl
theorem run_shrW (T : TypeId) (yk : IntKind) (a : BitVec 32) (n : Nat) (w : World) : (binOp .shr T (W a) (.int yk (n : Int))).run P w = .ok (W (a >>> n)) w := by
  have h : (Op.shift .shr .u32 (a.toNat : Int) yk (n : Int)).run P w = .ok (W (a >>> n)) w := by
    unfold Op.shift
    rw [if_neg (by omega)]
    show (Sem.pure _).run P w = _
    simp only [Sem.run, W]
    congr 2
    simp only [Int.toNat_natCast, BitVec.toNat_ushiftRight, IntKind.bits]
    rw [Nat.shiftRight_eq_div_pow]
    have hlt := a.isLt
    rcases Nat.le_total n 32 with hn | hn
    · rw [Nat.min_eq_left hn, Int.fdiv_eq_ediv_of_nonneg _ (by exact_mod_cast Nat.zero_le _)]; simp
    · rw [Nat.min_eq_right hn, Int.fdiv_eq_ediv_of_nonneg _ (by decide)]
      have h1 : a.toNat / 2^n = 0 := Nat.div_eq_of_lt (Nat.lt_of_lt_of_le hlt (Nat.pow_le_pow_right (by decide) hn))
      rw [h1]; omega
  exact h
theorem run_shlW (T : TypeId) (yk : IntKind) (a : BitVec 32) (n : Nat) (w : World) : (binOp .shl T (W a) (.int yk (n : Int))).run P w = .ok (W (a <<< n)) w := by
  have h : (Op.shift .shl .u32 (a.toNat : Int) yk (n : Int)).run P w = .ok (W (a <<< n)) w := by
    unfold Op.shift
    rw [if_neg (by omega)]
    show (Sem.pure _).run P w = _
    simp only [Sem.run]
    congr 1
    rw [wrapW]
    simp only [Int.toNat_natCast, IntKind.bits]
    congr 1
    apply BitVec.eq_of_toNat_eq
    rw [BitVec.toNat_shiftLeft, Nat.shiftLeft_eq]
    have e : ((a.toNat : Int) * 2 ^ min n 32) = ((a.toNat * 2 ^ min n 32 : Nat) : Int) := by simp
    rw [e, BitVec.ofInt_natCast, BitVec.toNat_ofNat]
    rcases Nat.le_total n 32 with hn | hn
    · rw [Nat.min_eq_left hn]
    · rw [Nat.min_eq_right hn]
      have : a.toNat * 2 ^ n = 2^32 * (a.toNat * 2^(n-32)) := by
        rw [Nat.mul_left_comm, ← Nat.pow_add]; congr 2; omega
      rw [this]; omega
  exact h
end

theorem bits_or256 (x c : Nat) (hx : x ≤ 72057594037927935) (hc : c < 256) : Go.bits .or .u64 ((x : Int) * 256) (c : Int) = ((x * 256 + c : Nat) : Int) := by
  rw [u64_or _ _ (by omega) (by omega) (by omega) (by omega)]
  have e : ((x : Int) * 256).toNat = x * 256 := by omega
  rw [e, Int.toNat_natCast, nat_join8 _ _ (by omega) hc]
/-- Bytes as the model's bytes. -/
def bs (l : List UInt8) : ByteArray := ⟨l.toArray⟩
/-- A text as a value. -/
abbrev S (l : List UInt8) : Value := .string (bs l)
theorem bs_size (l : List UInt8) : (bs l).size = l.length := by simp [bs, ByteArray.size]
theorem bs_append (a b : List UInt8) : bs a ++ bs b = bs (a ++ b) := by
  apply ByteArray.ext; simp [bs, ByteArray.data_append]
theorem bs_extract (a : List UInt8) (i j : Nat) : (bs a).extract i j = bs ((a.take j).drop i) := by
  apply ByteArray.ext
  rw [ByteArray.data_extract]
  apply Array.ext'
  simp [bs, List.drop_take]
theorem bs_toList (a : List UInt8) : (bs a).toList = a := by rw [ByteArray.toList_eq]; simp [bs]
theorem bs_get (l : List UInt8) (k : Nat) (h : k < (bs l).size) : (bs l)[k]'h = l[k]'(by rw [bs_size] at h; exact h) := by
  show (bs l).data[k] = _
  simp [bs]
attribute [go_sem, simp] bs_size bs_append bs_extract bs_toList bs_get
theorem bs_data (a : List UInt8) : (bs a).data.toList = a := by simp [bs]
theorem bs_eta (s : ByteArray) : s = bs s.data.toList := by apply ByteArray.ext; simp [bs]
theorem bs_inj {a b : List UInt8} (h : bs a = bs b) : a = b := by have := congrArg (fun s => s.data.toList) h; simpa [bs] using this
/-- Bytes as cells. -/
def cells (l : List UInt8) : List Value := l.map B
theorem cells_length (l : List UInt8) : (cells l).length = l.length := by simp [cells]
theorem cells_get (l : List UInt8) (j : Nat) (h : j < l.length) : (cells l)[j]? = some (.int .u8 (l[j].toNat : Int)) := by simp [cells, h, B]
theorem cells_set (l : List UInt8) (j : Nat) (c : UInt8) : (cells l).set j (.int .u8 (c.toNat : Int)) = cells (l.set j c) := by simp [cells, List.map_set, B]
theorem madeZ (n : Nat) : (madeCells (Value.cells (.int .u8 0)) (n * 1)).toList = cells (List.replicate n 0) := by
  show (madeCells #[.int .u8 0] (n*1)).toList = _
  rw [toList_madeCells_one]; simp [cells, B]
theorem own_conv {P : Program} {w : World} {b e g n cap : Nat} {l : List UInt8} (s d : TypeId) (h : w.ownsRow b e 1 (.slice (some ⟨g, 0, none⟩) n cap) n (cells l))
    (hs : P.underlying s = some (.slice e)) (he : P.underlying e = some (.int .u8)) (hd : P.underlying d = some .string) :
    (convert s d (.slice (some ⟨g, 0, none⟩) n cap)).run P w = .ok (S l) w := by
  have hl : l.length = n := by have := h.1; rw [cells_length] at this; omega
  subst hl
  refine run_convert_bytes_back w s d e ⟨g,0,none⟩ cap l hs he hd fun j hj => ?_
  have := h.cellAt j (by omega)
  rw [cells_get _ _ hj] at this
  rw [← this]; simp only [Addr.add]; split <;> simp_all
/-- The world w' has new blocks at the most. -/
abbrev Pu (w w' : World) : Prop := Below w.heap.size w w'
theorem Pu.trans {a b c : World} (h : Pu a b) (k : Pu b c) : Pu a c := Below.trans h (Below.mono k h.size)
theorem Pu.alloc {a b : World} (h : Pu a b) (o : Obj) : Pu a (b.alloc o) := Below.alloc h h.size o
theorem Pu.cell {a b : World} (h : Pu a b) (k o : Nat) (hk : k < a.heap.size) : b.cell? ⟨k, o, none⟩ = a.cell? ⟨k, o, none⟩ := Below.cell h (p := ⟨k,o,none⟩) hk
theorem Pu.frozen {a b : World} (h : Pu a b) (k o : Nat) (hk : k < a.heap.size) : b.frozen? ⟨k, o, none⟩ = a.frozen? ⟨k, o, none⟩ := Below.frozen h (p := ⟨k,o,none⟩) hk
theorem ret_int {k : IntKind} {a b : Int} (h : a = b) : Ending.returned (.int k a) = .returned (.int k b) := by rw [h]
theorem ret_bool {a : Bool} (h : a = true) : Ending.returned (.bool a) = .returned (.bool true) := by rw [h]
theorem ret_str {a b : List UInt8} (h : a = b) : Ending.returned (S a) = .returned (S b) := by rw [h]

/-- Block g is a row of cells of type e which begin with xs; none of these is frozen. -/
def Row (w : World) (g : Nat) (e : TypeId) (xs : List Value) : Prop :=
  ∃ (c : Array Value) (fr : Nat × Nat), w.heap[g]? = some (.cells c e fr) ∧ c.toList.take xs.length = xs ∧ (fr.1 = fr.2 ∨ xs.length ≤ fr.1)
theorem Row.lt {w : World} {g : Nat} {e : TypeId} {xs : List Value} (h : Row w g e xs) : g < w.heap.size := by
  obtain ⟨c, fr, h, _⟩ := h
  exact (Array.getElem?_eq_some_iff.1 h).1
theorem take_get {α : Type} {c xs : List α} (h : c.take xs.length = xs) (j : Nat) (hj : j < xs.length) : c[j]? = xs[j]? := by
  have : xs[j]? = (c.take xs.length)[j]? := by rw [h]
  rw [this, List.getElem?_take, if_pos hj]
theorem Row.cell {w : World} {g : Nat} {e : TypeId} {xs : List Value} (h : Row w g e xs) (j : Nat) (hj : j < xs.length) : w.cell? ⟨g, j, none⟩ = some xs[j] := by
  obtain ⟨c, fr, hg, hc, _⟩ := h
  simp only [World.cell?, hg]
  have := take_get hc j hj
  simp at this ⊢
  rw [this, List.getElem?_eq_getElem hj]
theorem Row.cell' {w : World} {g : Nat} {e : TypeId} {xs : List Value} (h : Row w g e xs) (j : Nat) (hj : j < xs.length) : w.cell? ⟨g, j, none⟩ = xs[j]? := by
  rw [h.cell j hj, List.getElem?_eq_getElem hj]
theorem Row.frozen {w : World} {g : Nat} {e : TypeId} {xs : List Value} (h : Row w g e xs) (j : Nat) (hj : j < xs.length) : w.frozen? ⟨g, j, none⟩ = false := by
  obtain ⟨c, fr, hg, hc, hf⟩ := h
  simp only [World.frozen?, hg]
  simp; omega
theorem Row.set {w : World} {g : Nat} {e : TypeId} {xs : List Value} (h : Row w g e xs) (j : Nat) (v : Value) : Row (w.setCell ⟨g, j, none⟩ v) g e (xs.set j v) := by
  obtain ⟨c, fr, hg, hc, hf⟩ := h
  refine ⟨c.setIfInBounds j v, fr, ?_, ?_, by simpa using hf⟩
  · simp only [World.setCell, Array.getElem?_modify, if_pos, hg]; simp
  · rw [List.length_set, Array.toList_setIfInBounds, List.take_set, hc]
theorem Row.other {w w' : World} {g : Nat} {e : TypeId} {xs : List Value} (h : Row w g e xs) (hb : w'.heap[g]? = w.heap[g]?) : Row w' g e xs := by
  obtain ⟨c, fr, hg, r⟩ := h
  exact ⟨c, fr, by rw [hb, hg], r⟩
theorem Row.below {B : Nat} {w w' : World} {g : Nat} {e : TypeId} {xs : List Value} (h : Row w g e xs) (hb : Below B w w') (hg : g < B) : Row w' g e xs := h.other (hb.block g hg)
theorem Row.pu {w w' : World} {g : Nat} {e : TypeId} {xs : List Value} (h : Row w g e xs) (hb : Pu w w') : Row w' g e xs := h.other (hb.block g h.lt)
theorem Row.setOther {w : World} {g : Nat} {e : TypeId} {xs : List Value} (h : Row w g e xs) (a : Addr) (v : Value) (hne : g ≠ a.block) : Row (w.setCell a v) g e xs := h.other (Below.heap_setCell _ _ _ _ hne)
theorem Row.alloc {w : World} {g : Nat} {e : TypeId} {xs : List Value} (h : Row w g e xs) (o : Obj) : Row (w.alloc o) g e xs := h.other (Below.heap_alloc _ _ _ h.lt)
theorem Row.drew {w : World} {g : Nat} {e : TypeId} {xs : List Value} (h : Row w g e xs) : Row w.drew g e xs := h
theorem Row.new (w : World) (c : Array Value) (e : TypeId) : Row (w.alloc (.cells c e)) w.heap.size e c.toList :=
  ⟨c, (0, 0), by show (w.heap.push _)[w.heap.size]? = _; simp, List.take_of_length_le (by simp), .inl rfl⟩
theorem Row.take {w : World} {g : Nat} {e : TypeId} {xs : List Value} (h : Row w g e xs) (n : Nat) : Row w g e (xs.take n) := by
  obtain ⟨c, fr, hg, hc, hf⟩ := h
  refine ⟨c, fr, hg, ?_, ?_⟩
  · conv => rhs; rw [← hc]
    rw [List.take_take, List.length_take]
  · rw [List.length_take]; omega
theorem Row.left {w : World} {g : Nat} {e : TypeId} {xs ys : List Value} (h : Row w g e (xs ++ ys)) : Row w g e xs := by
  have := h.take xs.length; simpa using this
theorem Row.own {w : World} {b e g n cap : Nat} {xs : List Value} (h : w.ownsRow b e 1 (.slice (some ⟨g, 0, none⟩) n cap) n xs) : Row w g e xs := by
  obtain ⟨hl, h⟩ := h
  rcases h with ⟨h', _⟩ | ⟨g', cap', cur, h', _, hg, _, _, _, htake⟩
  · simp at h'
  · simp only [Value.slice.injEq, Option.some.injEq, Addr.mk.injEq, and_true, true_and] at h'
    obtain ⟨rfl, rfl⟩ := h'
    exact ⟨cur, (0,0), hg, by rw [hl]; exact htake, .inl rfl⟩

theorem Row.byte {w : World} {g : Nat} {e : TypeId} {l : List UInt8} (h : Row w g e (cells l)) (j : Nat) (hj : j < l.length) : w.cell? ⟨g, j, none⟩ = some (.int .u8 (l[j].toNat : Int)) := by
  have := h.cell j (by rw [cells_length]; exact hj)
  simpa [cells, B] using this
theorem Row.conv {P : Program} {w : World} {e g n cap : Nat} {l : List UInt8} (s d : TypeId) (h : Row w g e (cells l)) (hn : n = l.length)
    (hs : P.underlying s = some (.slice e)) (he : P.underlying e = some (.int .u8)) (hd : P.underlying d = some .string) :
    (convert s d (.slice (some ⟨g, 0, none⟩) n cap)).run P w = .ok (S l) w := by
  subst hn
  refine run_convert_bytes_back w s d e ⟨g,0,none⟩ cap l hs he hd fun j hj => ?_
  have := h.cell j (by rw [cells_length]; exact hj)
  simp only [cells, List.getElem_map, B] at this
  rw [← this]; simp only [Addr.add]; split <;> simp_all

theorem Row.bytes (w : World) (s : List UInt8) (cap : Nat) (e : TypeId) : Row (w.drew.alloc (.cells (bytesRow (bs s) cap) e ((bytesRow (bs s) cap).size, (bytesRow (bs s) cap).size + 1))) w.heap.size e (cells s) := by
  refine ⟨_, _, (by show (w.heap.push _)[w.heap.size]? = _; exact Array.getElem?_push_size), ?_, .inr ?_⟩
  · rw [cells_length]
    simp [bytesRow, cells, bs]
    exact fun _ _ => rfl
  · simp [bytesRow, cells_length, bs]
/-- '[]byte(s)': a new row that begins with s. -/
theorem wpList_bytes {P : Program} (w : World) {ops : Array Oper} {rest : List Oper} {o : Oper} {a : Act} {Q : Exit → Act → World → Prop}
    (hg : o.guard = none) (x : Operand) (src dst e : TypeId) (hop : o.op = Op.convert src dst x) (l : List UInt8) (hx : a.eval x = S l)
    (hs : P.underlying src = some .string) (hd : P.underlying dst = some (.slice e)) (he : P.underlying e = some (.int .u8))
    (hK : ∀ w' cap, Row w' w.heap.size e (cells l) → Pu w w' → l.length ≤ cap → wpList P ops Q rest (a.put o.dst (.slice (some ⟨w.heap.size, 0, none⟩) l.length cap)) w') :
    wpList P ops Q (o :: rest) a w := by
  refine wpList_plain hg fun K hK' => ?_
  have hrun := run_bytes_of_string (P := P) w src dst e (bs l) hs hd he
  unfold Oper.wp
  simp [execOp, hop, hx, hrun, Result.andThen]
  refine hK' _ _ (hK _ _ (Row.bytes w l _ e) ?_ ?_)
  · exact ((Below.refl _ _).drew).alloc (Nat.le_refl _) _
  · exact grownCap_ge _ _ _ _
theorem run_callFunc_body {P : Program} {f : FuncId} {fn : Func} (hf : P.funcs[f]? = some fn) (hn : (fn.name == "runtime.NumGoroutine") = false) (hb : fn.body.isNone = false) (args : Array Value) (w : World) :
    (callFunc f args).run P w = .ok (.enter f args) w := by
  have hb' : fn.body ≠ none := by intro h; rw [h] at hb; cases hb
  have hn' : fn.name ≠ "runtime.NumGoroutine" := by simpa using hn
  simp [callFunc, go_sem, hf, hn', hb']
end Go.Esc
