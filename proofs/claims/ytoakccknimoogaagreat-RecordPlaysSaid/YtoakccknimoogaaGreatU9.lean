/- Chapter 13: three lists of texts beside an Out and an In. The document's In: a record that is opened. The document's In: Open. Package escutcheonbook: SameTexts of two lists that are alike. The document's In: Open, of whatever comes; it lies beside an Out and an In. -/
import Derived.Test.YtoakccknimoogaaGreatU8
import Derived.Laws.AppendOwnNone
set_option linter.unusedSimpArgs false
set_option linter.unusedVariables false
namespace Go.Esc
open Go Go.RowKit
/-- 'append(s, x...)', both the call's own, either may be nil. -/
theorem wpList_append_two {P : Program} {w : World} {ops : Array Oper} {rest : List Oper} {o : Oper} {a : Act} {Q : Exit → Act → World → Prop} (hgd : o.guard = none) (s x : Operand) (t : TypeId)
 (ho : o.op = .call { callee := .builtin .append, args := #[s, x], argTypes := #[t, t] })
 (base : Nat) (e : TypeId) (i : TypeInfo) (z : Value) (bytes : Nat) (ht : P.underlying t = some (.slice e)) (hi : P.info? e = some i) (hz : i.zero = some z)
 (hsize : i.size = 1) (hby : i.bytes = bytes) (hzs : z.cells.size = 1)
 (v : Value) (n : Nat) (xs : List Value) (hs : a.eval s = v) (hown : w.ownsRow base e 1 v n xs)
 (base2 : Nat) (u : Value) (m : Nat) (news : List Value) (hx : a.eval x = u) (hownu : w.ownsRow base2 e 1 u m news) (h1 : ∀ u ∈ news, u.oneCell' = true)
 (h63 : n + m ≤ maxLen) (hbytes : (n + m) * bytes ≤ 140737488355328) (hbase : base ≤ w.heap.size)
 (h : ∀ v' w', w'.ownsRow base e 1 v' (n + m) (xs ++ news) → w.grownBy w' v.ownBlock → (v'.ownBlock = v.ownBlock ∨ v'.ownBlock = some w.heap.size) → wpList P ops Q rest (a.put o.dst v') w') :
 wpList P ops Q (o :: rest) a w := by
 rcases hownu.2 with ⟨hu, hm⟩ | ⟨g, cap, cur, hu, -, -, -, -, -, -⟩
 · subst hu; subst hm
   have hnw : news = [] := List.eq_nil_of_length_eq_zero (by have := hownu.1; simpa using this)
   subst hnw
   refine wpList_append_own_none hgd s x t ho base e i 1 ht hi v n xs hs hown hx ?_
   exact h v w (by simpa using hown) ⟨rfl, rfl, rfl, Nat.le_refl _, fun _ _ _ => rfl⟩ (.inl rfl)
 · subst hu
   have hc := hownu.cells (g := g) rfl
   exact wpList_append_own_at _ hgd s x t ho base e i z 1 bytes ht hi hz hsize hby hzs (by decide) v n xs hs hown ⟨g, 0, none⟩ m cap news hx hownu.1 hc h1 h63 hbytes hbase (fun v' w' h2 h3 _ h5 => h v' w' h2 h3 h5)
end Go.Esc
namespace Go.Proofs.YtoakccknimoogaaGreat
open Go.RowKit Go.Esc
structure OI3 (Go Gi : Nat → Prop) (w0 w : World) (ob ib : Nat) (k1 k2 : Bs) (m1 n m2 : Nat) (s : InS) (v1 : Value) (L1 : List Bs) (v2 : Value) (L2 : List Bs) (v3 : Value) (L3 : List Bs) : Prop where
 oi : OI Go Gi w0 w ob ib k1 k2 m1 n m2 s
 own1 : w.ownsRow w0.heap.size 9 1 v1 L1.length (L1.map S)
 own2 : w.ownsRow w0.heap.size 9 1 v2 L2.length (L2.map S)
 own3 : w.ownsRow w0.heap.size 9 1 v3 L3.length (L3.map S)
 ap1 : ∀ g, v1.ownBlock = some g → ¬ Go g ∧ ¬ Gi g
 ap2 : ∀ g, v2.ownBlock = some g → ¬ Go g ∧ ¬ Gi g
 ap3 : ∀ g, v3.ownBlock = some g → ¬ Go g ∧ ¬ Gi g
 d12 : ∀ g, v1.ownBlock = some g → v2.ownBlock ≠ some g
 d13 : ∀ g, v1.ownBlock = some g → v3.ownBlock ≠ some g
 d23 : ∀ g, v2.ownBlock = some g → v3.ownBlock ≠ some g
section
variable {Go Gi : Nat → Prop} {w0 w : World} {ob ib : Nat} {k1 k2 : Bs} {m1 n m2 : Nat} {s : InS} {v1 v2 v3 : Value} {L1 L2 L3 : List Bs}
theorem OI3.pu (h : OI3 Go Gi w0 w ob ib k1 k2 m1 n m2 s v1 L1 v2 L2 v3 L3) {w' : World} (hp : Pu w w') : OI3 Go Gi w0 w' ob ib k1 k2 m1 n m2 s v1 L1 v2 L2 v3 L3 :=
 ⟨h.oi.pu hp, own_pu h.own1 hp, own_pu h.own2 hp, own_pu h.own3 hp, h.ap1, h.ap2, h.ap3, h.d12, h.d13, h.d23⟩
theorem OI3.start (h : OI Go Gi w0 w ob ib k1 k2 m1 n m2 s) : OI3 Go Gi w0 w ob ib k1 k2 m1 n m2 s (.slice none 0 0) [] (.slice none 0 0) [] (.slice none 0 0) [] :=
 ⟨h, World.ownsRow_nil _ _ _ _, World.ownsRow_nil _ _ _ _, World.ownsRow_nil _ _ _ _, fun _ h => (by cases h), fun _ h => (by cases h), fun _ h => (by cases h), fun _ h => (by cases h), fun _ h => (by cases h), fun _ h => (by cases h)⟩
theorem OI3.chg (h : OI3 Go Gi w0 w ob ib k1 k2 m1 n m2 s v1 L1 v2 L2 v3 L3) {w' : World} {v' : Value} {L' : List Bs} (hc : Cg (fun g => v1.ownBlock = some g) w w') (ho : w'.ownsRow w0.heap.size 9 1 v' L'.length (L'.map S)) (hat : v'.ownBlock = v1.ownBlock ∨ v'.ownBlock = some w.heap.size) :
 OI3 Go Gi w0 w' ob ib k1 k2 m1 n m2 s v' L' v2 L2 v3 L3 := by
 refine ⟨h.oi.cg hc (fun g hg => (h.ap1 g hg).1) (fun g hg => (h.ap1 g hg).2) (fun g hg => (h.own1.lt g hg).1), ho, own_cg h.own2 hc (fun g a b => h.d12 g b a), own_cg h.own3 hc (fun g a b => h.d13 g b a), fun g hg => ?_, h.ap2, h.ap3, fun g hg hh => ?_, fun g hg hh => ?_, h.d23⟩
 · rcases hat with e | e
   · exact h.ap1 g (by rw [← e]; exact hg)
   · rw [e] at hg; cases hg
     refine ⟨fun hh => ?_, fun hh => ?_⟩
     · have := h.oi.o.dom _ hh; omega
     · have := h.oi.i.dom _ hh; omega
 · rcases hat with e | e
   · exact h.d12 g (by rw [← e]; exact hg) hh
   · rw [e] at hg; cases hg
     have := (h.own2.lt _ hh).2; omega
 · rcases hat with e | e
   · exact h.d13 g (by rw [← e]; exact hg) hh
   · rw [e] at hg; cases hg
     have := (h.own3.lt _ hh).2; omega
theorem Cg.grew {w w' : World} {v : Value} (hg : w.grownBy w' v.ownBlock) : Cg (fun g => v.ownBlock = some g) w w' := ⟨hg.os, hg.tape, hg.output, hg.size, fun k hk hn => hg.block k hk (fun e => hn e.symm)⟩
theorem OI3.push (h : OI3 Go Gi w0 w ob ib k1 k2 m1 n m2 s v1 L1 v2 L2 v3 L3) {w' : World} {v' : Value} {T : List Bs} {q : Nat} {vs : List Value} (ho : w'.ownsRow w0.heap.size 9 1 v' q vs) (hg : w.grownBy w' v1.ownBlock) (hat : v'.ownBlock = v1.ownBlock ∨ v'.ownBlock = some w.heap.size) (hq : q = L1.length + T.length) (hv : vs = L1.map S ++ T.map S) :
 OI3 Go Gi w0 w' ob ib k1 k2 m1 n m2 s v' (L1 ++ T) v2 L2 v3 L3 := by
 subst hq; subst hv
 exact h.chg (Cg.grew hg) (by simpa using ho) hat
end
end Go.Proofs.YtoakccknimoogaaGreat
namespace Go.Proofs.YtoakccknimoogaaGreat
open Go.RowKit Go.Esc
theorem own_base {w : World} {B B' e n : Nat} {v : Value} {xs : List Value} (h : w.ownsRow B' e 1 v n xs) (hB : B ≤ B') : w.ownsRow B e 1 v n xs := by
 refine ⟨h.1, ?_⟩
 rcases h.2 with h0 | ⟨g, cap, cur, hv, hg, rest⟩
 · exact .inl h0
 · exact .inr ⟨g, cap, cur, hv, Nat.le_trans hB hg, rest⟩
def refM (ir n : Nat) (w : World) : Nat := match w.cell? ⟨ir, 1, none⟩ with | some v => n - (intOf v).toNat | none => 0
theorem seqV_one (l : List (Nat × Bs)) : ∀ u ∈ seqV l, u.oneCell' = true := by intro u hu; obtain ⟨x, -, rfl⟩ := List.mem_map.1 hu; rfl
theorem txtV_one (l : List (Nat × Bs)) : ∀ u ∈ txtV l, u.oneCell' = true := by intro u hu; obtain ⟨x, -, rfl⟩ := List.mem_map.1 hu; rfl
/-- What holds in the loop that tells. -/
structure RLoop (w wr : World) (ir : Nat) (key : Bs) (N c : Nat) (f : Nat → Option Bs) (told : List Bs) (l : List (Nat × Bs)) (vq vt vo : Value) : Prop where
 row : Row wr ir 33 [S key, .int .i64 (N : Int), vq, vt]
 oq : wr.ownsRow w.heap.size 3 1 vq l.length (seqV l)
 ot : wr.ownsRow w.heap.size 9 1 vt l.length (txtV l)
 oo : wr.ownsRow w.heap.size 9 1 vo told.length (told.map S)
 lk : Lk l (cutF f N)
 len : l.length = c
 cg : Cg (fun g => g = ir) w wr
 ap : ∀ g, vo.ownBlock = some g → vt.ownBlock ≠ some g ∧ vq.ownBlock ≠ some g
 ir : ir < w.heap.size
theorem RLoop.final {G : Nat → Prop} {B : Nat} {w wr : World} {ir : Nat} {key : Bs} {f : Nat → Option Bs} {told : List Bs} {l : List (Nat × Bs)} {vq vt vo : Value} {s : InS} (h : RLoop w wr ir key s.n s.c f told l vq vt vo) (hf : s.f = cutF f s.n) (hG : G ir) (hB : B ≤ w.heap.size) (hd : ∀ g, G g → g < w.heap.size) (hl : ∀ g, G g → B ≤ g) (e : Nat) :
 RefR G B w wr ir key (e, told, s) vo := by
 refine ⟨h.oo, ⟨l, vq, vt, ⟨h.row, own_base h.oq hB, own_base h.ot hB, .inl hG, fun g hg => .inr (h.oq.lt g hg), fun g hg => .inr (h.ot.lt g hg), fun e => ?_, fun e => ?_, Gw.dom hd h.cg.size, fun g hg => ?_⟩, by rw [hf]; exact h.lk, h.len⟩, h.cg⟩
 · have := (h.oq.lt _ e).1; have := h.ir; omega
 · have := (h.ot.lt _ e).1; have := h.ir; omega
 · rcases hg with h1 | h1
   · exact hl g h1
   · omega
theorem RLoop.cells {w wr : World} {ir : Nat} {key : Bs} {N c : Nat} {f : Nat → Option Bs} {told : List Bs} {l : List (Nat × Bs)} {vq vt vo : Value} (h : RLoop w wr ir key N c f told l vq vt vo) : wr.cell? ⟨ir, 0, none⟩ = some (S key) ∧ wr.cell? ⟨ir, 1, none⟩ = some (.int .i64 (N : Int)) ∧ wr.cell? ⟨ir, 2, none⟩ = some vq ∧ wr.cell? ⟨ir, 3, none⟩ = some vt := by
 refine ⟨?_, ?_, ?_, ?_⟩
 · have := h.row.cell 0 (by simp); simpa using this
 · have := h.row.cell 1 (by simp); simpa using this
 · have := h.row.cell 2 (by simp); simpa using this
 · have := h.row.cell 3 (by simp); simpa using this
theorem RLoop.pu {w wr w' : World} {ir : Nat} {key : Bs} {N c : Nat} {f : Nat → Option Bs} {told : List Bs} {l : List (Nat × Bs)} {vq vt vo : Value} (h : RLoop w wr ir key N c f told l vq vt vo) (hp : Pu wr w') : RLoop w w' ir key N c f told l vq vt vo :=
 ⟨h.row.pu hp, own_pu h.oq hp, own_pu h.ot hp, own_pu h.oo hp, h.lk, h.len, h.cg.pu hp, h.ap, h.ir⟩
/-- One text more is told. -/
theorem RLoop.push {w wr w' : World} {ir : Nat} {key : Bs} {N c : Nat} {f : Nat → Option Bs} {told : List Bs} {l : List (Nat × Bs)} {vq vt vo : Value} (h : RLoop w wr ir key N c f told l vq vt vo) {v' : Value} {t : Bs} {q : Nat} (ho : w'.ownsRow w.heap.size 9 1 v' q (told.map S ++ [S t])) (hq : q = told.length + 1) (hg : wr.grownBy w' vo.ownBlock) (hat : v'.ownBlock = vo.ownBlock ∨ v'.ownBlock = some wr.heap.size) :
 RLoop w w' ir key N c f (told ++ [t]) l vq vt v' := by
 subst hq
 have hne : ∀ g, vo.ownBlock = some g → g ≠ ir := fun g e h1 => by have := (h.oo.lt g e).1; have := h.ir; omega
 have hc : Cg (fun g => vo.ownBlock = some g) wr w' := ⟨hg.os, hg.tape, hg.output, hg.size, fun k hk hn => hg.block k hk (fun e => hn e.symm)⟩
 refine ⟨hc.row h.row (fun e => hne _ e rfl), own_cgB h.oq hc (fun g a b => (h.ap g b).2 a), own_cgB h.ot hc (fun g a b => (h.ap g b).1 a), by simpa using ho, h.lk, h.len, h.cg.andThen hc (fun g e => .inr (h.oo.lt g e).1), fun g e => ?_, h.ir⟩
 rcases hat with h1 | h1
 · exact h.ap g (by rw [← h1]; exact e)
 · rw [h1] at e; cases e
   exact ⟨fun e => by have := (h.ot.lt _ e).2; omega, fun e => by have := (h.oq.lt _ e).2; omega⟩
theorem set2 {a b c d v : Value} : [a, b, c, d].set 2 v = [a, b, v, d] := rfl
theorem set3 {a b c d v : Value} : [a, b, c, d].set 3 v = [a, b, c, v] := rfl
theorem set1 {a b c d v : Value} : [a, b, c, d].set 1 v = [a, v, c, d] := rfl
end Go.Proofs.YtoakccknimoogaaGreat
set_option linter.unusedSimpArgs false
set_option linter.unusedVariables false
namespace Go.Proofs.YtoakccknimoogaaGreat
open Go.RowKit Go.Esc
theorem RLoop.cut {w wr w1 w3 : World} {ir : Nat} {key : Bs} {N c : Nat} {f : Nat → Option Bs} {told : List Bs} {l : List (Nat × Bs)} {vq vt vo : Value} (h : RLoop w wr ir key N c f told l vq vt vo) {i : Nat} (hi : i < l.length) (hN : (l[i]).1 = N) {vq' vt' : Value} {n1 n2 : Nat} {xs1 xs2 : List Value}
 (hp1 : Pu wr w1) (ho1 : w1.ownsRow wr.heap.size 3 1 vq' n1 xs1) (e1 : n1 = (cutI l i).length) (x1 : xs1 = seqV (cutI l i))
 (hp3 : Pu (w1.setCell ⟨ir, 2, none⟩ vq') w3) (ho3 : w3.ownsRow (w1.setCell ⟨ir, 2, none⟩ vq').heap.size 9 1 vt' n2 xs2) (e2 : n2 = (cutI l i).length) (x2 : xs2 = txtV (cutI l i)) :
 RLoop w ((w3.setCell ⟨ir, 3, none⟩ vt').setCell ⟨ir, 1, none⟩ (.int .i64 ((N : Int) + 1))) ir key (N+1) (c-1) f told (cutI l i) vq' vt' vo := by
 subst e1; subst e2; subst x1; subst x2
 have hir := h.ir
 have hw := h.cg.size
 have hs1 := hp1.size
 have hs3 := hp3.size
 simp at hs3
 have low : ∀ {g : Nat}, wr.heap.size ≤ g → g ≠ ir := fun hg e => by omega
 have h1 := h.pu hp1
 have r2 := h1.row.set 2 vq'
 rw [set2] at r2
 have r3 := (r2.pu hp3).set 3 vt'
 rw [set3] at r3
 have r4 := r3.set 1 (.int .i64 ((N : Int) + 1))
 rw [set1] at r4
 have setK : ∀ {w0 : World} {v u : Value} {B e n j : Nat} {xs : List Value}, w0.ownsRow B e 1 v n xs → w.heap.size ≤ B → (w0.setCell ⟨ir, j, none⟩ u).ownsRow B e 1 v n xs := fun ho hb => ownsRow_setCell_below ho (a := ⟨ir, _, none⟩) (by show ir < _; omega) _
 have oq2 := setK (j := 2) (u := vq') ho1 hw
 have oq4 := setK (j := 1) (u := .int .i64 ((N : Int) + 1)) (setK (j := 3) (u := vt') (own_pu oq2 hp3) hw) hw
 have ot4 := setK (j := 1) (u := .int .i64 ((N : Int) + 1)) (setK (j := 3) (u := vt') ho3 (by simp; omega)) (by simp; omega)
 have oo4 := setK (j := 1) (u := .int .i64 ((N : Int) + 1)) (setK (j := 3) (u := vt') (own_pu (setK (j := 2) (u := vq') h1.oo (Nat.le_refl _)) hp3) (Nat.le_refl _)) (Nat.le_refl _)
 have bs : ∀ {a : World} {j : Nat} {u : Value}, Cg (fun g => g = ir) a (a.setCell ⟨ir, j, none⟩ u) := Cg.ofBut (But.set _ _ _) rfl
 refine ⟨r4, own_base oq4 hw, own_base ot4 (by simp; omega), oo4, ?_, ?_, (((((h1.cg.trans bs).pu hp3).trans bs).trans bs)), fun g hg => ⟨fun e => ?_, fun e => ?_⟩, hir⟩
 · have := h.lk.del hi
   rw [hN, updF_cut] at this
   exact this
 · rw [cutI_length hi, h.len]
 · have a1 := (ho3.lt g e).1
   have a2 := (h.oo.lt g hg).2
   simp at a1; omega
 · have a1 := (ho1.lt g e).1
   have a2 := (h.oo.lt g hg).2
   omega
theorem _root_.Go.Esc.Row.p4c {w : World} {g : Nat} {e : TypeId} {a b c d : Value} (h : Row w g e [a, b, c, d]) : w.cell? ⟨g, 0, none⟩ = some a ∧ w.cell? ⟨g, 1, none⟩ = some b ∧ w.cell? ⟨g, 2, none⟩ = some c ∧ w.cell? ⟨g, 3, none⟩ = some d := by
 refine ⟨?_, ?_, ?_, ?_⟩
 · have := h.cell 0 (by simp); simpa using this
 · have := h.cell 1 (by simp); simpa using this
 · have := h.cell 2 (by simp); simpa using this
 · have := h.cell 3 (by simp); simpa using this
theorem take_at {l : List Value} {i j : Nat} {u : Value} (h : (l.take i)[j]? = some u) : l[j]? = some u := by
 rw [List.getElem?_take] at h
 split at h
 · exact h
 · cases h
theorem sl_at {w' : World} {g I c : Nat} {xs : List Value} (hI : 0 < I) (hc : ∀ j u, xs[j]? = some u → w'.cell? ((⟨g, 0, none⟩ : Addr).add j) = some u) (hn : xs.length ≤ c) : ∀ j u, (xs.drop I)[j]? = some u → w'.cell? ((if c = I then (⟨g, 0, none⟩ : Addr) else ⟨g, I, none⟩).add j) = some u := by
 intro j u h
 rw [List.getElem?_drop] at h
 have hlt := (List.getElem?_eq_some_iff.1 h).1
 have := hc _ _ h
 rw [if_neg (by omega)]
 simp only [Addr.add] at this ⊢
 rw [if_neg (by omega)] at this
 split
 · next h0 => subst h0; simpa using this
 · simpa using this
/-- The first list that the loop sees. -/
theorem RLoop.first {G : Nat → Prop} {B : Nat} {w w1 w2 w3 : World} {ir : Nat} {key : Bs} {n c : Nat} {f : Nat → Option Bs} {l l' : List (Nat × Bs)} {vq vt vq' vt' : Value} (h : RefP G B w ir key n l vq vt)
 (hp1 : Pu w w1) (hp2 : Pu w1 w2) {n1 n2 : Nat} {xs1 xs2 : List Value} (ho1 : w2.ownsRow w1.heap.size 3 1 vq' n1 xs1) (e1 : n1 = l'.length) (x1 : xs1 = seqV l')
 (hp3 : Pu (w2.setCell ⟨ir, 2, none⟩ vq') w3) (ho3 : w3.ownsRow (w2.setCell ⟨ir, 2, none⟩ vq').heap.size 9 1 vt' n2 xs2) (e2 : n2 = l'.length) (x2 : xs2 = txtV l') (hl : Lk l' (cutF f n)) (hc : l'.length = c) :
 RLoop w (w3.setCell ⟨ir, 3, none⟩ vt') ir key n c f [] l' vq' vt' (.slice none 0 0) := by
 subst e1; subst e2; subst x1; subst x2
 have hir := h.dom ir h.gi
 have hs1 := hp1.size
 have hs2 := hp2.size
 have hs3 := hp3.size
 simp at hs3
 have r2 := ((h.row.pu hp1).pu hp2).set 2 vq'
 rw [set2] at r2
 have r3 := (r2.pu hp3).set 3 vt'
 rw [set3] at r3
 have setK : ∀ {w0 : World} {v u : Value} {B e n j : Nat} {xs : List Value}, w0.ownsRow B e 1 v n xs → w.heap.size ≤ B → (w0.setCell ⟨ir, j, none⟩ u).ownsRow B e 1 v n xs := fun ho hb => ownsRow_setCell_below ho (a := ⟨ir, _, none⟩) (by show ir < _; omega) _
 have oq2 := setK (j := 2) (u := vq') ho1 hs1
 have oq4 := setK (j := 3) (u := vt') (own_pu oq2 hp3) hs1
 have ot4 := setK (j := 3) (u := vt') ho3 (by simp; omega)
 have bs : ∀ {a : World} {j : Nat} {u : Value}, Cg (fun g => g = ir) a (a.setCell ⟨ir, j, none⟩ u) := Cg.ofBut (But.set _ _ _) rfl
 exact ⟨r3, own_base oq4 hs1, own_base ot4 (by simp; omega), World.ownsRow_nil _ _ _ _, hl, hc, ((((Cg.ofPu (hp1.trans hp2)).trans bs).pu hp3).trans bs), fun g hg => (by cases hg), hir⟩
set_option maxRecDepth 100000 in
set_option maxHeartbeats 1200000 in
theorem refOpenOk {G : Nat → Prop} {B : Nat} {w : World} {ir : Nat} {key : Bs} {s : InS} (h : RefAt G B w ir key s) (hB : B ≤ w.heap.size) (hs : s.Ok) (hc : s.c ≤ 90000) (hk : key.length = 32) (b t : Bs) (hb : b.length ≤ 90000)
 (hform : ¬ badForm b) (hold : ¬ (beN (b.take 8) < s.n ∨ s.n + 64 ≤ beN (b.take 8) ∨ (s.f (beN (b.take 8))).isSome = true)) (hpl : plainL key (beN (b.take 8)) b = some t) (out : List Bs) (hrun : IsRun (updF s.f (beN (b.take 8)) (some t)) s.n out) :
 Calls Tryz.prog 13 #[.pointer (some ⟨ir, 0, none⟩), S b] w fun e w' => ∃ v, e = .returned (.tuple #[v, .int .i64 0]) ∧ RefR G B w w' ir key (0, out, ⟨s.n + out.length, cutF (updF s.f (beN (b.take 8)) (some t)) (s.n + out.length), s.c + 1 - out.length⟩) v := by
 obtain ⟨l, vq, vt, hr, hl, hlc⟩ := h
 obtain ⟨is0, his, hsz, hss, hsb⟩ := info_parts infoSt
 obtain ⟨i0, hii, hz0, hz1, hz2⟩ := info_parts infoI
 have hn := hs.n
 have hf24 : ¬ b.length < 24 := fun h => hform (.inl h)
 have hf4 : ¬ 400 ≤ beN (b.take 8) := fun h => hform (.inr h)
 have k1 : ¬ (b.length : Int) < 24 := by omega
 have k3 : (8 : Int) ≤ b.length := by omega
 have hBg := fun w => refBig' (b.take 8) w (by simp; omega)
 have hU := fun w => refUnrecord key b hk hb w
 have hun : unrecR key b = (beN (b.take 8), t, 0) := by unfold unrecR; rw [if_neg hform, hpl]
 rw [hun] at hU
 obtain ⟨q, hq⟩ : ∃ v, v = beN (b.take 8) := ⟨_, rfl⟩
 rw [← hq] at hBg hold hrun hf4 hU ⊢
 have hfq : s.f q = none := by
  cases hf : s.f q with
  | none => rfl
  | some x => exfalso; rw [hf] at hold; simp at hold
 have k2 : ¬ (400 : Int) ≤ q := by omega
 have k4 : (q : Int) < 400 := by omega
 have k5 : ¬ (q : Int) < s.n := by omega
 have k6 : IntKind.i64.wrap ((s.n : Int) + 64) = s.n + 64 := by rw [IntKind.wrap_i64]; omega
 have k7 : ¬ (s.n : Int) + 64 ≤ q := by omega
 have hwq : IntKind.i64.wrap (q : Int) = q := by rw [IntKind.wrap_i64]; omega
 have hlow : ∀ k, k < s.n → s.f k = none := fun k hkn => by
  cases hf : s.f k with
  | none => rfl
  | some x => have := hs.key k (by rw [hf]; rfl); omega
 have hcut0 : cutF (updF s.f q (some t)) s.n = updF s.f q (some t) := cutF_low (updF_low hlow (by omega))
 have hadd := hl.add (t := t) hfq
 rw [← hcut0] at hadd
 obtain ⟨f', hf'⟩ : ∃ f', f' = updF s.f q (some t) := ⟨_, rfl⟩
 rw [← hf'] at hrun hadd ⊢
 have hokn := ok_step hs (t := t) (out := out) (q := q) (by omega) (by omega) (by rw [← hf']; exact hrun) (s.c + 1 - out.length)
 have hol : out.length ≤ 400 := by have := hokn.n; simp only at this; omega
 have hA := fun w' (hp : Pu w w') => refInAt l l.length rfl (hr.row.pu hp) (hr.pu hp).oq (by omega) q
 rw [hl.none_pos hfq] at hA
 have hC := fun w' (hp : Pu w w') => (hr.pu hp).cells
 have hrw := hr.row
 have hfz : ∀ w' j, Pu w w' → j < 4 → w'.frozen? ⟨ir, j, none⟩ = false := fun w' j hp hj => (hrw.pu hp).frozen j (by simpa using hj)
 have HFZ := Lib.hid hfz
 have HA := Lib.hid hA
 have HB := Lib.hid hBg
 have HU := Lib.hid hU
 have HC := Lib.hid hC
 have HR := Lib.hid hr
 have hl9 : l.length ≤ 90000 := by omega
 have HLC := Lib.hid hlc
 have HADD := Lib.hid hadd
 have HRUN := Lib.hid hrun
 have T1 := Lib.hid True.intro
 have hin := seqV_length l
 have htn := txtV_length l
 clear hBg hA hC hq hr hU hun hpl hold hform hfq hlow hcut0 hadd hf' hrun hokn hs hl hfz hf24 hf4 hrw hlc
 go_enter Tryz.func13, Tryz.ntmps13
 go_wp2_with (first
  | (go_at_call 35; clear T1; refine (HB.out _).mono ?_; rintro e w1 ⟨rfl, hp1⟩)
  | (go_at_call 35; refine (HB.out _).mono ?_; rintro e w2 ⟨rfl, hp2⟩; have hp12 := hp1.trans hp2; obtain ⟨c0, c1, c2, c3⟩ := HC.out _ hp12)
  | (go_at_call 36; refine (HA.out _ hp12).mono ?_; clear HA; rintro e w3 ⟨rfl, rfl⟩)
  | (go_at_call 37; refine (HU.out _).mono ?_; simp only [trip]; rintro e w4 ⟨rfl, hp4⟩
     have hp14 := hp12.trans hp4
     clear c0 c1 c2 c3
     obtain ⟨c0, c1, c2, c3⟩ := HC.out _ hp14
     have oq4 := (HR.out.pu hp14).oq)
  | (at_builtin; refine wpList_append_two rfl _ _ 30 rfl w4.heap.size 3 i0 (.int .i64 0) 8 Tryz.underlying30 hii hz0 hz1 hz2 rfl (.slice none 0 0) 0 [] rfl (World.ownsRow_nil _ _ _ _) _ vq l.length _ rfl oq4 (seqV_one l) (by unfold maxLen; omega) (by omega) (Nat.le_refl _) ?_; intro v5 w5 ho5 hg5 hat5
     have hp5 : Pu w4 w5 := (Below.refl _ _).grown hg5 (Nat.le_refl _) (fun j hj => by cases hj))
  | (at_builtin; refine wpList_append_own_at _ rfl _ _ 30 rfl w4.heap.size 3 i0 (.int .i64 0) 1 8 Tryz.underlying30 hii hz0 hz1 hz2 rfl (by decide) v5 (0 + l.length) _ rfl (ho5.alloc _) ⟨w5.heap.size, 0, none⟩ 1 1 [.int .i64 (q : Int)] rfl rfl (cell_one_newS _ _ _) (by simp [Value.oneCell']) (by unfold maxLen; omega) (by omega) (by have := hp5.size; simp; omega) ?_; intro v6 w6 ho6 hg6 _ hat6
     have hp6 : Pu w4 w6 := Below.grown (B := w4.heap.size) (hp5.alloc _) hg6 (by have := hp5.size; simp; omega) (fun j hj => (ho5.lt j hj).1)
     clear c0 c1 c2 c3
     obtain ⟨n6, hn6⟩ : ∃ n, n = 0 + l.length + 1 := ⟨_, rfl⟩
     rw [← hn6] at ho6
     obtain ⟨a6, q6, rfl, -⟩ := own_slice ho6
     have HN6 := Lib.hid hn6
     clear hn6
     obtain ⟨c0, c1, c2, c3⟩ := HC.out _ (hp14.trans hp6)
     have z2 := HFZ.out _ 2 (hp14.trans hp6) (by decide)
     have r7 := ((HR.out.row.pu (hp14.trans hp6)).set 2 (.slice a6 n6 q6))
     rw [set2] at r7
     have ot7 := ownsRow_setCell_other (HR.out.pu (hp14.trans hp6)).ot (a := ⟨ir, 2, none⟩) (fun e => HR.out.nt e) (.slice a6 n6 q6)
     have hw7 : w4.heap.size ≤ w6.heap.size := hp6.size
     obtain ⟨w7, hw7e⟩ : ∃ w7, w7 = w6.setCell ⟨ir, 2, none⟩ (.slice a6 n6 q6) := ⟨_, rfl⟩
     rw [← hw7e] at r7 ot7
     have d3 := r7.cell 3 (by simp)
     have y3 := r7.frozen 3 (by simp)
     simp at d3
     have HW7 := Lib.hid hw7e
     have R7 := Lib.hid r7)
  | (rw [← HW7.out]; at_builtin; refine wpList_append_two rfl _ _ 31 rfl w7.heap.size 9 is0 (.string ⟨#[]⟩) 16 Tryz.underlying31 his hsz hss hsb rfl (.slice none 0 0) 0 [] rfl (World.ownsRow_nil _ _ _ _) _ vt l.length _ rfl ot7 (txtV_one l) (by unfold maxLen; omega) (by omega) (Nat.le_refl _) ?_; intro v8 w8 ho8 hg8 hat8
     have hp8 : Pu w7 w8 := (Below.refl _ _).grown hg8 (Nat.le_refl _) (fun j hj => by cases hj))
  | (at_builtin; refine wpList_append_own_at _ rfl _ _ 31 rfl w7.heap.size 9 is0 (.string ⟨#[]⟩) 1 16 Tryz.underlying31 his hsz hss hsb rfl (by decide) v8 (0 + l.length) _ rfl (ho8.alloc _) ⟨w8.heap.size, 0, none⟩ 1 1 [S t] rfl rfl (cell_one_newS _ _ _) (by simp [Value.oneCell']) (by unfold maxLen; omega) (by omega) (by have := hp8.size; simp; omega) ?_; intro v10 w10 ho10 hg10 _ hat10
     have hp10 : Pu w7 w10 := Below.grown (B := w7.heap.size) (hp8.alloc _) hg10 (by have := hp8.size; simp; omega) (fun j hj => (ho8.lt j hj).1)
     clear d3 y3
     obtain ⟨n10, hn10⟩ : ∃ n, n = 0 + l.length + 1 := ⟨_, rfl⟩
     rw [← hn10] at ho10
     obtain ⟨a10, q10, rfl, -⟩ := own_slice ho10
     have HN10 := Lib.hid hn10
     clear hn10
     have d3 := (R7.out.pu hp10).cell 3 (by simp)
     have y3 := (R7.out.pu hp10).frozen 3 (by simp)
     simp at d3
     have hp10' := hp10
     have ho10' := ho10
     rw [HW7.out] at hp10' ho10'
     have rl := RLoop.first (l' := l ++ [(q, t)]) (c := s.c + 1) HR.out hp14 hp6 ho6 (by rw [HN6.out]; simp) (by simp [seqV]) hp10' ho10' (by rw [HN10.out]; simp) (by simp [txtV]) HADD.out (by simp [HLC.out])
     have RL := Lib.hid rl
     have d1 := rl.cells.2.1
     clear hp10' ho10' rl)
  | (go_at_call 36; refine (refInAt (l ++ [(q, t)]) (l ++ [(q, t)]).length rfl RL.out.row RL.out.oq (by simp; omega) s.n).mono ?_; rintro e w12 ⟨rfl, rfl⟩))
 clear c0 c1 c2 c3 d1 d3 y3 z2
 go_loopw [10, 11] (fun vo x wr => ∃ (j : Nat) (l : List (Nat × Bs)) (vq vt : Value), j ≤ out.length ∧ x = .int .i64 (posV l (s.n + j)) ∧ RLoop w wr ir key (s.n + j) (s.c + 1 - j) f' (out.take j) l vq vt vo) (fun _ _ wr => refM ir (s.n + out.length) wr)
 case atStart => exact ⟨0, _, _, _, Nat.zero_le _, rfl, RL.out⟩
 case round =>
  obtain ⟨j, l2, vq2, vt2, hj, hx, rl2⟩ := hrel
  clear RL HADD HC HFZ HU
  obtain ⟨N, hN⟩ : ∃ N, N = s.n + j := ⟨_, rfl⟩
  rw [← hN] at hx rl2
  have hlt : (out.take j).length = j := by simp; omega
  have hoo := rl2.oo
  rw [hlt] at hoo
  obtain ⟨ao, co, rfl, -⟩ := own_slice hoo
  by_cases hjl : j < out.length
  · obtain ⟨tj, htj⟩ : ∃ tj, tj = out[j] := ⟨_, rfl⟩
    have e1 : f' N = some tj := by rw [hN, HRUN.out.1 j hjl, List.getElem?_eq_getElem hjl, htj]
    obtain ⟨i, hi, hpos, hli⟩ := rl2.lk.some_pos (q := N) (t := tj) (by rw [cutF_at]; exact e1)
    have htake : out.take (j+1) = out.take j ++ [tj] := by rw [List.take_succ_eq_append_getElem hjl, htj]
    rw [hpos] at hx
    subst hx
    obtain ⟨gq, cq, rfl, -, -⟩ := own_form rl2.oq (by omega)
    obtain ⟨gt, ct, rfl, -, -⟩ := own_form rl2.ot (by omega)
    have hl2 := rl2.len
    obtain ⟨n2, hn2⟩ : ∃ n, n = l2.length := ⟨_, rfl⟩
    have hct : wr.cell? ⟨gt, i, none⟩ = some (S tj) := by
     rw [rl2.ot.cellAt i (by omega)]
     simp [txtV, List.getElem?_eq_getElem hi, hli]
    have hcq : n2 ≤ cq ∧ n2 ≤ ct := by
     have a1 := rl2.oq.2
     have a2 := rl2.ot.2
     rcases a1 with ⟨h9, -⟩ | ⟨_, _, _, h9, -, -, h8, -⟩
     · cases h9
     · cases h9
       rcases a2 with ⟨h9, -⟩ | ⟨_, _, _, h9, -, -, h7, -⟩
       · cases h9
       · cases h9
         omega
    obtain ⟨c0, c1, c2, c3⟩ := rl2.cells
    rw [← hn2] at rl2 c2 c3
    obtain ⟨I1, hI1⟩ : ∃ I, I = i + 1 := ⟨_, rfl⟩
    have hIw : IntKind.i64.wrap ((i : Int) + 1) = I1 := by rw [IntKind.wrap_i64]; omega
    have hi0 : (0 : Int) ≤ i := by omega
    have hi1 : (i : Int) < n2 := by omega
    have hi2 : (0 : Int) ≤ I1 := by omega
    have hi3 : (I1 : Int) ≤ n2 := by omega
    have hi4 : (i : Int) ≤ cq := by omega
    have hi5 : (i : Int) ≤ ct := by omega
    have hi6 : (n2 : Int) ≤ cq := by omega
    have hi7 : (n2 : Int) ≤ ct := by omega
    have hb2 : n2 ≤ 90001 := by omega
    obtain ⟨n16, hn16⟩ : ∃ n, n = i + (n2 - I1) := ⟨_, rfl⟩
    have HN16 := Lib.hid hn16
    obtain ⟨sq, hsq⟩ : ∃ v, v = Value.slice (if cq = I1 then some ⟨gq, 0, none⟩ else some ⟨gq, I1, none⟩) (n2 - I1) (cq - I1) := ⟨_, rfl⟩
    obtain ⟨st, hst⟩ : ∃ v, v = Value.slice (if ct = I1 then some ⟨gt, 0, none⟩ else some ⟨gt, I1, none⟩) (n2 - I1) (ct - I1) := ⟨_, rfl⟩
    have HSQ := Lib.hid hsq
    have HST := Lib.hid hst
    have hNw : IntKind.i64.wrap ((N : Int) + 1) = N + 1 := by rw [IntKind.wrap_i64]; omega
    have HN := Lib.hid hN
    have HN2 := Lib.hid hn2
    have HI1 := Lib.hid hI1
    have HLI := Lib.hid hli
    have HTK := Lib.hid htake
    have HL2 := Lib.hid hl2
    have HI := Lib.hid hi
    have RL2 := Lib.hid rl2
    have hwl := rl2.cg.size
    clear hN hn2 hI1 hli htake hl2 rl2 htj e1 hpos hn16 hsq hst
    go_wp2_with (at_builtin; refine wpList_append_own_at _ rfl _ _ 31 rfl w.heap.size 9 is0 (.string ⟨#[]⟩) 1 16 Tryz.underlying31 his hsz hss hsb rfl (by decide) (.slice ao j co) j _ rfl (hoo.alloc _) ⟨wr.heap.size, 0, none⟩ 1 1 [S tj] rfl rfl (cell_one_newS _ _ _) (by simp [Value.oneCell']) (by unfold maxLen; omega) (by omega) (by simp; omega) ?_; intro v13 w13 ho13 hg13 _ hat13)
    have rl3 := (RL2.out.pu ((Pu.refl wr).alloc (.cells #[S tj] 9))).push (t := tj) ho13 (by rw [hlt]) hg13 hat13
    have hc13 := fun w' (hp : Pu w13 w') => (rl3.pu hp).cells
    have hz13 := fun w' j (hp : Pu w13 w') (hj : j < 4) => (rl3.row.pu hp).frozen j (by simpa using hj)
    have hq13 := fun w' (hp : Pu w13 w') => (rl3.pu hp).oq.cells (g := gq) rfl
    have HC13 := Lib.hid hc13
    have HZ13 := Lib.hid hz13
    have HQ13 := Lib.hid hq13
    have RL3 := Lib.hid rl3
    clear hc13 hz13 hq13 rl3 hg13 hat13 ho13
    apply region_two (b := 7) (m := 15) (n := 18) (hn := by kernel_rfl) (hlast := rfl) (hU := by kernel_rfl) (hbm := by decide) (hBr := by kernel_rfl) (Φs := (Is _ :: Is _ :: Is _ :: Is _ :: Is _ :: Is _ :: Is _ :: IsRowO w13.heap.size 3 i ((seqV l2).take i) :: Is _ :: Is _ :: Is _ :: Is _ :: Is _ :: Is _ :: Is sq :: IsRowO w13.heap.size 3 n16 ((seqV l2).take i ++ (seqV l2).drop I1) :: Is _ :: Is _ :: [])) (hfree := ⟨fun _ => free_is _, fun _ => free_is _, fun _ => free_is _, fun _ => free_is _, fun _ => free_is _, fun _ => free_is _, fun _ => free_is _, (fun h => absurd h (by decide)), fun _ => free_is _, fun _ => free_is _, fun _ => free_is _, fun _ => free_is _, fun _ => free_is _, fun _ => free_is _, fun _ => free_is _, (fun h => absurd h (by decide)), fun _ => free_is _, fun _ => free_is _, trivial⟩) (hm := by kernel_rfl) (hE := by kernel_rfl) (hD := by kernel_rfl) (hsize := by kernel_rfl)
    case hop =>
     refine ⟨?_, ?_, ?_, ?_, ?_, ?_, ?_, ?_, ?_, ?_, ?_, ?_, ?_, ?_, ?_, ?_, ?_, ?_, trivial⟩
     · intro a' w' hs hp he
       have e0 := hs 0 (by kernel_rfl)
       try simp [Is, Region.binds] at he
       exact op_v
     · intro a' w' hs hp he
       have e0 := hs 0 (by kernel_rfl)
       try simp [Is, Region.binds] at he
       exact op_v
     · intro a' w' hs hp he
       try simp [Is, Region.binds] at he
       exact op_v
     · intro a' w' hs hp he
       try simp [Is, Region.binds] at he
       exact op_v
     · intro a' w' hs hp he
       try simp [Is, Region.binds] at he
       obtain ⟨c0, c1, c2, c3⟩ := HC13.out _ hp; exact op_val rfl (wanted_none rfl) (by first | (go_simp; done) | (go_simp; rfl)) rfl (Pu.refl _)
     · intro a' w' hs hp he
       have e11 := hs 11 (by kernel_rfl)
       try simp [Is, Region.binds] at he
       exact op_v
     · intro a' w' hs hp he
       try simp [Is, Region.binds] at he
       exact op_v
     · intro a' w' hs hp he
       try simp [Is, Region.binds] at he
       refine op_append2 (R := fun w'' => Pu w' w'') rfl rfl (.const (.slice none 0 0)) (.tmp 111) 30 rfl w13.heap.size 3 i0 (.int .i64 0) 8 Tryz.underlying30 hii hz0 hz1 hz2 rfl (.slice none 0 0) 0 [] rfl (World.ownsRow_nil _ _ _ _) ⟨gq, 0, none⟩ i cq ((seqV l2).take i) (by simpa [Act.eval] using he) (by rw [List.length_take, seqV_length]; omega) (fun j u hu => HQ13.out _ hp j u (take_at hu)) (fun u hu => seqV_one l2 u (List.mem_of_mem_take hu)) (by unfold maxLen; omega) (by omega) hp.size rfl ?_; intro v' w'' h1 h2 _; exact ⟨IsRowO.of (by simpa using h1), (Below.refl _ _).grown h2 (Nat.le_refl _) (fun k hk => by cases hk)⟩
     · intro a' w' hs hp he
       have e0 := hs 0 (by kernel_rfl)
       try simp [Is, Region.binds] at he
       exact op_v
     · intro a' w' hs hp he
       try simp [Is, Region.binds] at he
       exact op_v
     · intro a' w' hs hp he
       try simp [Is, Region.binds] at he
       exact op_v
     · intro a' w' hs hp he
       try simp [Is, Region.binds] at he
       obtain ⟨c0, c1, c2, c3⟩ := HC13.out _ hp; exact op_val rfl (wanted_none rfl) (by first | (go_simp; done) | (go_simp; rfl)) rfl (Pu.refl _)
     · intro a' w' hs hp he
       have e11 := hs 11 (by kernel_rfl)
       try simp [Is, Region.binds] at he
       exact op_v
     · intro a' w' hs hp he
       try simp [Is, Region.binds] at he
       exact op_v
     · intro a' w' hs hp he
       try simp [Is, Region.binds] at he
       rw [HSQ.out]; exact op_val rfl (wanted_none rfl) (by first | (go_simp; done) | (go_simp; rfl)) rfl (Pu.refl _)
     · intro a' w' hs hp he
       try simp [Is, Region.binds] at he
       obtain ⟨⟨a7, q7, hv7, ho7⟩, hx15, -⟩ := he; refine op_append2 (R := fun w'' => Below w13.heap.size w' w'') rfl rfl (.tmp 112) (.tmp 119) 30 rfl w13.heap.size 3 i0 (.int .i64 0) 8 Tryz.underlying30 hii hz0 hz1 hz2 rfl (.slice a7 i q7) i ((seqV l2).take i) (by simpa [Act.eval] using hv7) ho7 (if cq = I1 then (⟨gq, 0, none⟩ : Addr) else ⟨gq, I1, none⟩) (n2 - I1) (cq - I1) ((seqV l2).drop I1) (by have e15 : a'.tmps[119]?.getD undef = Value.slice (some (if cq = I1 then (⟨gq, 0, none⟩ : Addr) else ⟨gq, I1, none⟩)) (n2 - I1) (cq - I1) := hx15.trans (HSQ.out.trans (by split <;> rfl)); first | exact e15 | (simp only [Act.eval]; exact e15) | (simpa [Act.eval] using e15)) (by rw [List.length_drop, seqV_length, ← HN2.out]) (sl_at (by have := HI1.out; omega) (fun j u hu => HQ13.out _ hp j u hu) (by rw [seqV_length, ← HN2.out]; omega)) (fun u hu => seqV_one l2 u (List.mem_of_mem_drop hu)) (by unfold maxLen; omega) (by omega) hp.size rfl ?_; intro v' w'' h1 h2 _; rw [← HN16.out] at h1; exact ⟨IsRowO.of h1, (Below.refl _ _).grown h2 hp.size (fun k hk => (ho7.lt k hk).1)⟩
     · intro a' w' hs hp he
       try simp [Is, Region.binds] at he
       exact op_v
     · intro a' w' hs hp he
       try simp [Is, Region.binds] at he
       exact op_v
    case hend =>
     intro a' w' hdef hsz hs hp hall
     obtain ⟨r0, r1, r2, r3, r4, r5, r6, r7, r8, r9, r10, r11, r12, r13, r14, r15, r16, r17, -⟩ := hall
     obtain ⟨vB, rv7⟩ : ∃ v, a'.tmps[112]?.getD undef = v := ⟨_, rfl⟩
     obtain ⟨g15, cap15, rv15, row15⟩ := r15
     have hA := agree_done (agree_step (agree_step (agree_step (agree_step (agree_step (agree_step (agree_step (agree_step (agree_step (agree_step (agree_step (agree_step (agree_step (agree_step (agree_step (agree_step (agree_step (agree_step (agree_initL [105, 106, 107, 108, 109, 110, 111, 112, 113, 114, 115, 116, 117, 118, 119, 120, 121, 122] hsz hs (by kernel_rfl)) r0) r1) r2) r3) r4) r5) r6) rv7) r8) r9) r10) r11) r12) r13) r14) rv15) r16) r17)
     have ha := act_of hA hdef
     rw [ha]
     clear ha hA hs hsz hdef r0 r1 r2 r3 r4 r5 r6 r8 r9 r10 r11 r12 r13 r14 r16 r17 rv7 rv15
     (try simp only [List.setIfInBounds_toArray])
     (try dsimp only [List.set_cons_zero, List.set_cons_succ])
     (try simp only [Exit.then])
     obtain ⟨c0, c1, c2, c3⟩ := HC13.out _ hp; have z2 := HZ13.out _ 2 hp (by decide)
     refine op_done rfl (wanted_none rfl) (by first | (go_simp; done) | (go_simp; rfl)) ?_
     (try simp only [Exit.inBlock, Exit.then])
     rename World => w16
     have r17 := (RL3.out.pu hp).row.set 2 (.slice g15 n16 cap15)
     rw [set2] at r17
     have ot17 := ownsRow_setCell_other (RL3.out.pu hp).ot (a := ⟨ir, 2, none⟩) (fun e => by have := (RL3.out.ot.lt _ e).1; have := RL3.out.ir; simp at *; omega) (.slice g15 n16 cap15)
     obtain ⟨w17, hw17⟩ : ∃ w', w' = w16.setCell ⟨ir, 2, none⟩ (.slice g15 n16 cap15) := ⟨_, rfl⟩
     rw [← hw17] at r17 ot17 ⊢
     have HW17 := Lib.hid hw17
     have HP16 := Lib.hid hp
     have ROW16 := Lib.hid row15
     have HC17 := Lib.hid (fun w' (hp : Pu w17 w') => (r17.pu hp).p4c)
     have HZ17 := Lib.hid (fun w' j (hp : Pu w17 w') (hj : j < 4) => (r17.pu hp).frozen j (by simpa using hj))
     have HQ17 := Lib.hid (fun w' (hp : Pu w17 w') => (own_pu ot17 hp).cells (g := gt) rfl)
     have R17 := Lib.hid r17
     clear hw17 hp row15 r17 ot17
     go_wp2_with fail
     apply region_two (b := 7) (m := 15) (n := 18) (hn := by kernel_rfl) (hlast := rfl) (hU := by kernel_rfl) (hbm := by decide) (hBr := by kernel_rfl) (Φs := (Is _ :: Is _ :: Is _ :: Is _ :: Is _ :: Is _ :: Is _ :: IsRowO w17.heap.size 9 i ((txtV l2).take i) :: Is _ :: Is _ :: Is _ :: Is _ :: Is _ :: Is _ :: Is st :: IsRowO w17.heap.size 9 n16 ((txtV l2).take i ++ (txtV l2).drop I1) :: Is _ :: Is _ :: [])) (hfree := ⟨fun _ => free_is _, fun _ => free_is _, fun _ => free_is _, fun _ => free_is _, fun _ => free_is _, fun _ => free_is _, fun _ => free_is _, (fun h => absurd h (by decide)), fun _ => free_is _, fun _ => free_is _, fun _ => free_is _, fun _ => free_is _, fun _ => free_is _, fun _ => free_is _, fun _ => free_is _, (fun h => absurd h (by decide)), fun _ => free_is _, fun _ => free_is _, trivial⟩) (hm := by kernel_rfl) (hE := by kernel_rfl) (hD := by kernel_rfl) (hsize := by kernel_rfl)
     case hop =>
      refine ⟨?_, ?_, ?_, ?_, ?_, ?_, ?_, ?_, ?_, ?_, ?_, ?_, ?_, ?_, ?_, ?_, ?_, ?_, trivial⟩
      · intro a' w' hs hp he
        have e0 := hs 0 (by kernel_rfl)
        try simp [Is, Region.binds] at he
        exact op_v
      · intro a' w' hs hp he
        have e0 := hs 0 (by kernel_rfl)
        try simp [Is, Region.binds] at he
        exact op_v
      · intro a' w' hs hp he
        try simp [Is, Region.binds] at he
        exact op_v
      · intro a' w' hs hp he
        try simp [Is, Region.binds] at he
        exact op_v
      · intro a' w' hs hp he
        try simp [Is, Region.binds] at he
        obtain ⟨c0, c1, c2, c3⟩ := HC17.out _ hp; exact op_val rfl (wanted_none rfl) (by first | (go_simp; done) | (go_simp; rfl)) rfl (Pu.refl _)
      · intro a' w' hs hp he
        have e11 := hs 11 (by kernel_rfl)
        try simp [Is, Region.binds] at he
        exact op_v
      · intro a' w' hs hp he
        try simp [Is, Region.binds] at he
        exact op_v
      · intro a' w' hs hp he
        try simp [Is, Region.binds] at he
        refine op_append2 (R := fun w'' => Pu w' w'') rfl rfl (.const (.slice none 0 0)) (.tmp 129) 31 rfl w17.heap.size 9 is0 (.string ⟨#[]⟩) 16 Tryz.underlying31 his hsz hss hsb rfl (.slice none 0 0) 0 [] rfl (World.ownsRow_nil _ _ _ _) ⟨gt, 0, none⟩ i ct ((txtV l2).take i) (by simpa [Act.eval] using he) (by rw [List.length_take, txtV_length]; omega) (fun j u hu => HQ17.out _ hp j u (take_at hu)) (fun u hu => txtV_one l2 u (List.mem_of_mem_take hu)) (by unfold maxLen; omega) (by omega) hp.size rfl ?_; intro v' w'' h1 h2 _; exact ⟨IsRowO.of (by simpa using h1), (Below.refl _ _).grown h2 (Nat.le_refl _) (fun k hk => by cases hk)⟩
      · intro a' w' hs hp he
        have e0 := hs 0 (by kernel_rfl)
        try simp [Is, Region.binds] at he
        exact op_v
      · intro a' w' hs hp he
        try simp [Is, Region.binds] at he
        exact op_v
      · intro a' w' hs hp he
        try simp [Is, Region.binds] at he
        exact op_v
      · intro a' w' hs hp he
        try simp [Is, Region.binds] at he
        obtain ⟨c0, c1, c2, c3⟩ := HC17.out _ hp; exact op_val rfl (wanted_none rfl) (by first | (go_simp; done) | (go_simp; rfl)) rfl (Pu.refl _)
      · intro a' w' hs hp he
        have e11 := hs 11 (by kernel_rfl)
        try simp [Is, Region.binds] at he
        exact op_v
      · intro a' w' hs hp he
        try simp [Is, Region.binds] at he
        exact op_v
      · intro a' w' hs hp he
        try simp [Is, Region.binds] at he
        rw [HST.out]; exact op_val rfl (wanted_none rfl) (by first | (go_simp; done) | (go_simp; rfl)) rfl (Pu.refl _)
      · intro a' w' hs hp he
        try simp [Is, Region.binds] at he
        obtain ⟨⟨a7, q7, hv7, ho7⟩, hx15, -⟩ := he; refine op_append2 (R := fun w'' => Below w17.heap.size w' w'') rfl rfl (.tmp 130) (.tmp 137) 31 rfl w17.heap.size 9 is0 (.string ⟨#[]⟩) 16 Tryz.underlying31 his hsz hss hsb rfl (.slice a7 i q7) i ((txtV l2).take i) (by simpa [Act.eval] using hv7) ho7 (if ct = I1 then (⟨gt, 0, none⟩ : Addr) else ⟨gt, I1, none⟩) (n2 - I1) (ct - I1) ((txtV l2).drop I1) (by have e15 : a'.tmps[137]?.getD undef = Value.slice (some (if ct = I1 then (⟨gt, 0, none⟩ : Addr) else ⟨gt, I1, none⟩)) (n2 - I1) (ct - I1) := hx15.trans (HST.out.trans (by split <;> rfl)); first | exact e15 | (simp only [Act.eval]; exact e15) | (simpa [Act.eval] using e15)) (by rw [List.length_drop, txtV_length, ← HN2.out]) (sl_at (by have := HI1.out; omega) (fun j u hu => HQ17.out _ hp j u hu) (by rw [txtV_length, ← HN2.out]; omega)) (fun u hu => txtV_one l2 u (List.mem_of_mem_drop hu)) (by unfold maxLen; omega) (by omega) hp.size rfl ?_; intro v' w'' h1 h2 _; rw [← HN16.out] at h1; exact ⟨IsRowO.of h1, (Below.refl _ _).grown h2 hp.size (fun k hk => (ho7.lt k hk).1)⟩
      · intro a' w' hs hp he
        try simp [Is, Region.binds] at he
        exact op_v
      · intro a' w' hs hp he
        try simp [Is, Region.binds] at he
        exact op_v
     case hend =>
      intro a' w' hdef hsz hs hp hall
      obtain ⟨r0, r1, r2, r3, r4, r5, r6, r7, r8, r9, r10, r11, r12, r13, r14, r15, r16, r17, -⟩ := hall
      obtain ⟨vB, rv7⟩ : ∃ v, a'.tmps[130]?.getD undef = v := ⟨_, rfl⟩
      obtain ⟨g15, cap15, rv15, row15⟩ := r15
      have hA := agree_done (agree_step (agree_step (agree_step (agree_step (agree_step (agree_step (agree_step (agree_step (agree_step (agree_step (agree_step (agree_step (agree_step (agree_step (agree_step (agree_step (agree_step (agree_step (agree_initL [123, 124, 125, 126, 127, 128, 129, 130, 131, 132, 133, 134, 135, 136, 137, 138, 139, 140] hsz hs (by kernel_rfl)) r0) r1) r2) r3) r4) r5) r6) rv7) r8) r9) r10) r11) r12) r13) r14) rv15) r16) r17)
      have ha := act_of hA hdef
      rw [ha]
      clear ha hA hs hsz hdef r0 r1 r2 r3 r4 r5 r6 r8 r9 r10 r11 r12 r13 r14 r16 r17 rv7 rv15
      (try simp only [List.setIfInBounds_toArray])
      (try dsimp only [List.set_cons_zero, List.set_cons_succ])
      (try simp only [Exit.then])
      obtain ⟨c0, c1, c2, c3⟩ := HC17.out _ hp; have z3 := HZ17.out _ 3 hp (by decide)
      refine op_done rfl (wanted_none rfl) (by first | (go_simp; done) | (go_simp; rfl)) ?_
      (try simp only [Exit.inBlock, Exit.then])
      rename World => w18
      have r18 := (R17.out.pu hp).set 3 (.slice g15 n16 cap15)
      rw [set3] at r18
      have d1 := r18.cell 1 (by simp)
      have z1 := r18.frozen 1 (by simp)
      simp at d1
      have hpc := hp
      have hoc := row15
      rw [HW17.out] at hpc hoc
      have hlen : n16 = (cutI l2 i).length := by
       have h1 := HN16.out
       have h2 := HN2.out
       have h3 := HI1.out
       rw [cutI_length hi]; omega
      have hcut : ∀ (val : Nat × Bs → Value), (l2.map val).take i ++ (l2.map val).drop I1 = (cutI l2 i).map val := fun val => by rw [HI1.out]; simp [cutI]
      have rl9 := RLoop.cut RL3.out hi (by rw [HLI.out]) HP16.out ROW16.out hlen (hcut _) hpc hoc hlen (hcut _)
      have hA9 := refInAt (cutI l2 i) _ rfl rl9.row rl9.oq (by rw [cutI_length hi]; have := HN2.out; omega) (N+1)
      rw [show ((N + 1 : Nat) : Int) = (N : Int) + 1 by omega] at hA9
      have d9 := rl9.cells.2.1
      have HA9 := Lib.hid hA9
      have RL9 := Lib.hid rl9
      clear hpc hoc hlen hcut rl9 hA9 hp row15 r18
      go_wp2_with (go_at_call 36; refine HA9.out.mono ?_; rintro e w19 ⟨rfl, rfl⟩)
      have e9 : s.n + (j+1) = N + 1 := by have := HN.out; omega
      have e8 : s.c + 1 - (j+1) = s.c + 1 - j - 1 := by omega
      go_roundw
      case rel =>
       have R := RL9.out
       rw [← e8, ← HTK.out, ← e9] at R
       exact ⟨j+1, cutI l2 i, _, _, by omega, by rw [e9], R⟩
      case measure =>
       have cw0 := RL2.out.cells.2.1
       have cz := RL9.out.cells.2.1
       have := HN.out
       simp only [refM, cw0, cz, intOf]
       omega
  · obtain rfl : j = out.length := by omega
    have hpos := rl2.lk.none_pos (q := N) (by rw [cutF_at, hN]; exact HRUN.out.2)
    rw [hpos] at hx
    subst hx
    rw [List.take_length, hN] at rl2
    have RL2 := Lib.hid rl2
    clear rl2 hN
    go_wp2_with fail
    go_ret2
    exact ⟨_, rfl, RLoop.final (s := ⟨s.n + out.length, cutF f' (s.n + out.length), s.c + 1 - out.length⟩) RL2.out rfl HR.out.gi hB HR.out.dom HR.out.low 0⟩
end Go.Proofs.YtoakccknimoogaaGreat
set_option linter.unusedSimpArgs false
set_option linter.unusedVariables false
namespace Go.Proofs.YtoakccknimoogaaGreat
open Go.RowKit Go.Esc
theorem own_below {w w' : World} {B e n : Nat} {v : Value} {xs : List Value} (h : w.ownsRow B e 1 v n xs) (hp : Pu w w') : w'.ownsRow B e 1 v n xs := by
 refine ⟨h.1, ?_⟩
 rcases h.2 with h0 | ⟨g, cap, cur, hv, hg, hc, rest⟩
 · exact .inl h0
 · refine .inr ⟨g, cap, cur, hv, hg, ?_, rest⟩
   rw [hp.block g (Array.getElem?_eq_some_iff.1 hc).1]
   exact hc
set_option maxRecDepth 100000 in
theorem sameTexts {w : World} {v1 v2 : Value} (l : List Bs) (n : Nat) (hn : n = l.length) {B1 B2 : Nat} (h1 : w.ownsRow B1 9 1 v1 n (l.map S)) (h2 : w.ownsRow B2 9 1 v2 n (l.map S)) (hm : n ≤ 100000) :
 Calls Tryz.prog 15 #[v1, v2] w fun e w' => e = .returned (.bool true) ∧ Pu w w' := by
 subst hn
 have H1 := Lib.hid h1
 have H2 := Lib.hid h2
 obtain ⟨a1, c1, rfl, -⟩ := own_slice h1
 obtain ⟨a2, c2, rfl, -⟩ := own_slice h2
 clear h1 h2
 go_enter Tryz.func15, Tryz.ntmps15
 go_wp2_with fail
 go_loopw [5] (fun i wr => ∃ k : Nat, k ≤ l.length ∧ i = .int .i64 k ∧ Pu w wr) (fun i _ => l.length - (intOf i).toNat)
 case atStart => exact ⟨0, Nat.zero_le _, rfl, Below.refl _ _⟩
 case round =>
  obtain ⟨k, hk, rfl, hbel⟩ := hrel
  by_cases hlt : k < l.length
  · have hk1 : (k : Int) < l.length := by omega
    have hk0 : (0 : Int) ≤ k := by omega
    obtain ⟨g1, c1', e1, -⟩ := own_form H1.out (by omega)
    obtain ⟨g2, c2', e2, -⟩ := own_form H2.out (by omega)
    cases e1
    cases e2
    obtain ⟨x, hx⟩ : ∃ x, (l.map S)[k]? = some (S x) := ⟨l[k], by simp [List.getElem?_eq_getElem hlt]⟩
    have D1 : ∀ w' : World, Pu wr w' → w'.cell? ⟨g1, k, none⟩ = some (S x) := fun w' hp => by rw [(own_below H1.out (hbel.trans hp)).cellAt k (by omega)]; exact hx
    have D2 : ∀ w' : World, Pu wr w' → w'.cell? ⟨g2, k, none⟩ = some (S x) := fun w' hp => by rw [(own_below H2.out (hbel.trans hp)).cellAt k (by omega)]; exact hx
    have HD1 := Lib.hid D1
    have HD2 := Lib.hid D2
    clear D1 D2 hx
    go_wp2_with fail
    apply region_pu (Φs := (Is _ :: Is _ :: Is _ :: Is _ :: Is _ :: Is _ :: Is _ :: Is _ :: Is _ :: Is _ :: [])) (hm := by kernel_rfl) (hE := by kernel_rfl) (hD := by kernel_rfl) (hsize := by kernel_rfl)
    case hop =>
     refine ⟨?_, ?_, ?_, ?_, ?_, ?_, ?_, ?_, ?_, ?_, trivial⟩
     · intro a' w' hs hp he
       have e0 := hs 0 (by kernel_rfl)
       try simp [Is, Region.binds] at he
       exact op_v
     · intro a' w' hs hp he
       have e5 := hs 5 (by kernel_rfl)
       try simp [Is, Region.binds] at he
       exact op_v
     · intro a' w' hs hp he
       try simp [Is, Region.binds] at he
       exact op_v
     · intro a' w' hs hp he
       try simp [Is, Region.binds] at he
       have hc := HD1.out _ hp; exact op_val rfl (wanted_none rfl) (by first | (go_simp; done) | (go_simp; rfl)) rfl (Below.refl _ _)
     · intro a' w' hs hp he
       have e1 := hs 1 (by kernel_rfl)
       try simp [Is, Region.binds] at he
       exact op_v
     · intro a' w' hs hp he
       have e5 := hs 5 (by kernel_rfl)
       try simp [Is, Region.binds] at he
       exact op_v
     · intro a' w' hs hp he
       try simp [Is, Region.binds] at he
       exact op_v
     · intro a' w' hs hp he
       try simp [Is, Region.binds] at he
       have hc := HD2.out _ hp; exact op_val rfl (wanted_none rfl) (by first | (go_simp; done) | (go_simp; rfl)) rfl (Below.refl _ _)
     · intro a' w' hs hp he
       try simp [Is, Region.binds] at he
       exact op_v
     · intro a' w' hs hp he
       try simp [Is, Region.binds] at he
       exact op_v
    case hend =>
     intro a' w' hdef hsz hs hp hall
     obtain ⟨r0, r1, r2, r3, r4, r5, r6, r7, r8, r9, -⟩ := hall
     have hA := agree_done (agree_step (agree_step (agree_step (agree_step (agree_step (agree_step (agree_step (agree_step (agree_step (agree_step (agree_init [17, 18, 19, 20, 21, 22, 23, 24, 25, 26] hsz hs (by kernel_rfl)) r0) r1) r2) r3) r4) r5) r6) r7) r8) r9)
     have ha := act_of hA hdef
     rw [ha]
     clear ha hA hs hsz hdef r0 r1 r2 r3 r4 r5 r6 r7 r8 r9 
     (try simp only [List.setIfInBounds_toArray])
     (try dsimp only [List.set_cons_zero, List.set_cons_succ])
     (try simp only [Exit.then])
     have hbel2 := hbel.trans hp
     clear hp
     go_wp2_with fail
     go_roundw
     case rel => exact ⟨k + 1, by omega, by go_num, hbel2⟩
     case measure => simp [intOf]; omega
  · obtain rfl : k = l.length := by omega
    have hlt' : decide ((l.length : Int) < l.length) = false := by simp
    go_wp2_with fail
    go_ret
    exact ⟨rfl, hbel⟩
end Go.Proofs.YtoakccknimoogaaGreat
namespace Go.Proofs.YtoakccknimoogaaGreat
open Go.RowKit Go.Esc
theorem refOpen {G : Nat → Prop} {B : Nat} {w : World} {ir : Nat} {key : Bs} {s : InS} (h : RefAt G B w ir key s) (hB : B ≤ w.heap.size) (hs : s.Ok) (hc : s.c ≤ 90000) (hk : key.length = 32) (b : Bs) (hb : b.length ≤ 90000) :
 Calls Tryz.prog 13 #[.pointer (some ⟨ir, 0, none⟩), S b] w fun e w' => ∃ v, e = .returned (.tuple #[v, .int .i64 ((openS key s b).1 : Int)]) ∧ RefR G B w w' ir key (openS key s b) v := by
 by_cases hbf : badForm b
 · exact refOpenNo h hB hs hc hk b hb (.inl hbf)
 · by_cases hold : beN (b.take 8) < s.n ∨ s.n + 64 ≤ beN (b.take 8) ∨ (s.f (beN (b.take 8))).isSome = true
   · refine refOpenNo h hB hs hc hk b hb (.inr ?_)
     rcases hold with h1 | h1 | h1
     · exact .inl h1
     · exact .inr (.inl h1)
     · exact .inr (.inr (.inl h1))
   · cases hpl : plainL key (beN (b.take 8)) b with
     | none => exact refOpenNo h hB hs hc hk b hb (.inr (.inr (.inr (.inr hpl))))
     | some t =>
       have hend : updF s.f (beN (b.take 8)) (some t) (s.n + 1000) = none := by
        unfold updF
        rw [if_neg (by unfold badForm at hbf; omega)]
        cases hf : s.f (s.n + 1000) with
        | none => rfl
        | some x => have := hs.key (s.n + 1000) (by rw [hf]; rfl); omega
       have e9 : openS key s b = (0, runF (updF s.f (beN (b.take 8)) (some t)) s.n 1000, ⟨s.n + (runF (updF s.f (beN (b.take 8)) (some t)) s.n 1000).length, cutF (updF s.f (beN (b.take 8)) (some t)) (s.n + (runF (updF s.f (beN (b.take 8)) (some t)) s.n 1000).length), s.c + 1 - (runF (updF s.f (beN (b.take 8)) (some t)) s.n 1000).length⟩) := by unfold openS; rw [if_neg hbf]; simp only; rw [if_neg hold, hpl]
       rw [e9]
       exact refOpenOk h hB hs hc hk b t hb hbf hold hpl _ (runF_is _ 1000 s.n hend)
theorem openS_c (key : Bs) (s : InS) (b : Bs) : (openS key s b).2.2.c ≤ s.c + 1 := by
 unfold openS
 split
 · simp
 · simp only
   split
   · simp
   · split
     · simp
     · simp
theorem openS_out (key : Bs) (s : InS) (b : Bs) (hs : s.Ok) : (openS key s b).2.1.length ≤ 400 := by
 have h := (openS_ok key s b hs).n
 revert h
 unfold openS
 split
 · simp
 · simp only
   split
   · simp
   · split
     · simp
     · simp only
       omega
theorem RefAt.dom {G : Nat → Prop} {B : Nat} {w : World} {ir : Nat} {key : Bs} {s : InS} (h : RefAt G B w ir key s) : ∀ g, G g → g < w.heap.size := by
 obtain ⟨l, vq, vt, h1, -, -⟩ := h
 exact h1.dom
theorem RefAt.low {G : Nat → Prop} {B : Nat} {w : World} {ir : Nat} {key : Bs} {s : InS} (h : RefAt G B w ir key s) : ∀ g, G g → B ≤ g := by
 obtain ⟨l, vq, vt, h1, -, -⟩ := h
 exact h1.low
theorem RefAt.gi {G : Nat → Prop} {B : Nat} {w : World} {ir : Nat} {key : Bs} {s : InS} (h : RefAt G B w ir key s) : G ir := by
 obtain ⟨l, vq, vt, h1, -, -⟩ := h
 exact h1.gi
theorem RefAt.pu {G : Nat → Prop} {B : Nat} {w w' : World} {ir : Nat} {key : Bs} {s : InS} (h : RefAt G B w ir key s) (hp : Pu w w') : RefAt G B w' ir key s := h.cg (H := fun _ => False) (Cg.ofPu hp) (fun _ h => h.elim)
/-- An Out, an In and the document's In, made since world w0. -/
structure Cross (Go Gi Gr : Nat → Prop) (w0 w : World) (ob ib ir : Nat) (k1 k2 : Bs) (m1 n m2 : Nat) (s sr : InS) : Prop where
 oi : OI Go Gi w0 w ob ib k1 k2 m1 n m2 s
 r : RefAt Gr w0.heap.size w ir k2 sr
 d : ∀ g, Gr g → ¬ (Go g ∨ Gi g)
section
variable {Go Gi Gr : Nat → Prop} {w0 w : World} {ob ib ir : Nat} {k1 k2 : Bs} {m1 n m2 : Nat} {s sr : InS}
theorem Cross.pu (h : Cross Go Gi Gr w0 w ob ib ir k1 k2 m1 n m2 s sr) {w' : World} (hp : Pu w w') : Cross Go Gi Gr w0 w' ob ib ir k1 k2 m1 n m2 s sr := ⟨h.oi.pu hp, h.r.pu hp, h.d⟩
theorem crossRef (h : Cross Go Gi Gr w0 w ob ib ir k1 k2 m1 n m2 s sr) (hs : sr.Ok) (hc : sr.c ≤ 90000) (hk : k2.length = 32) (b : Bs) (hb : b.length ≤ 90000) :
 Calls Tryz.prog 13 #[.pointer (some ⟨ir, 0, none⟩), S b] w fun e w' => ∃ v, e = .returned (.tuple #[v, .int .i64 ((openS k2 sr b).1 : Int)]) ∧ w'.ownsRow w.heap.size 9 1 v (openS k2 sr b).2.1.length ((openS k2 sr b).2.1.map S) ∧
  Cross Go Gi (Gw Gr w w') w0 w' ob ib ir k1 k2 m1 n m2 s (openS k2 sr b).2.2 ∧ Cg (fun g => g = ir) w w' := by
 refine (refOpen h.r h.oi.since.size hs hc hk b hb).mono ?_
 rintro e w' ⟨v, rfl, ho, hr, hcg⟩
 refine ⟨v, rfl, ho, ⟨h.oi.cg hcg (fun g h1 h2 => ?_) (fun g h1 h2 => ?_) (fun g h1 => ?_), hr, fun g hg hh => ?_⟩, hcg⟩
 · subst h1; exact h.d _ h.r.gi (.inl h2)
 · subst h1; exact h.d _ h.r.gi (.inr h2)
 · subst h1; exact h.r.low _ h.r.gi
 · rcases hg with h1 | h1
   · exact h.d g h1 hh
   · rcases hh with h2 | h2
     · have := h.oi.o.dom _ h2; omega
     · have := h.oi.i.dom _ h2; omega
end
end Go.Proofs.YtoakccknimoogaaGreat
