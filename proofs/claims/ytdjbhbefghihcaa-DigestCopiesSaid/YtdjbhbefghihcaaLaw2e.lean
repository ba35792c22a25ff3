/- Chapter 2: DigestCopies. -/
import Derived.Test.YtdjbhbefghihcaaLaw2
import Derived.Test.YtdjbhbefghihcaaRefSum
import Derived.Test.YtdjbhbefghihcaaTxt
import Derived.Maps.AppendAt
namespace Go.Proofs.Ytdjbhbefghihcaa
open Go.RowKit Go.Esc
theorem infoS : (Try.prog.info? 9).map (fun i => (i.zero, i.size, i.bytes)) = some (some (.string ⟨#[]⟩), 1, 16) := by kernel_rfl
theorem infoP : (Try.prog.info? 34).map (fun i => (i.zero, i.size, i.bytes)) = some (some (.pointer none), 1, 8) := by kernel_rfl
theorem but_grown {m : Nat} {w w' : World} (hb : But m w w') : w.grownBy w' (some m) := ⟨hb.os, hb.tape, hb.output, hb.size, fun j hj hne => hb.block j hj (fun e => hne (by rw [e]))⟩
theorem Dig.grown' {w w' : World} {b : Nat} {l : Bs} (h : Dig w b l) {row : Option Nat} (hg : w.grownBy w' row) (hne : row ≠ some b) : Dig w' b l := by
  obtain ⟨e, xs, hr, hx⟩ := h
  exact ⟨e, xs, hr.other (hg.block b hr.lt (fun e => hne e.symm)), hx⟩
theorem own_at {w : World} {B e n cap : Nat} {a : Option Addr} {xs : List Value} (h : w.ownsRow B e 1 (.slice a n cap) n xs) {j : Nat} {u : Value} (hj : xs[j]? = some u) (hn : j < n) :
    ∃ q, a = some ⟨q, 0, none⟩ ∧ w.cell? ⟨q, j, none⟩ = some u := by
  obtain ⟨g, c, hv, _, _⟩ := own_form h (by omega)
  cases hv
  exact ⟨g, rfl, by rw [h.cellAt j (by omega)]; exact hj⟩
def P1 (b : Nat) : Value := .pointer (some ⟨b, 0, none⟩)
/-- The copies and what they had. -/
structure Cop (g : Nat) (w : World) (v5 v6 : Value) (k : Nat) (bl : List Nat) (hs h6 : List Bs) : Prop where
  o5 : w.ownsRow (g+1) 34 1 v5 bl.length (bl.map P1)
  o6 : w.ownsRow (g+1) 9 1 v6 h6.length (h6.map S)
  dig : ∀ j, j < k → g < bl.getD j 0 ∧ Dig w (bl.getD j 0) (hs.getD j [])
  nd : ∀ i j, i < k → j < k → i ≠ j → bl.getD i 0 ≠ bl.getD j 0
  s5 : ∀ q, v5.ownBlock = some q → v6.ownBlock ≠ some q ∧ ∀ j, j < k → bl.getD j 0 ≠ q
  s6 : ∀ q, v6.ownBlock = some q → ∀ j, j < k → bl.getD j 0 ≠ q
theorem Cop.pu {g : Nat} {w w' : World} {v5 v6 : Value} {k : Nat} {bl : List Nat} {hs h6 : List Bs} (h : Cop g w v5 v6 k bl hs h6) (hp : Pu w w') : Cop g w' v5 v6 k bl hs h6 :=
  ⟨own_pu h.o5 hp, own_pu h.o6 hp, fun j hj => ⟨(h.dig j hj).1, (h.dig j hj).2.pu hp⟩, h.nd, h.s5, h.s6⟩
theorem Cop.butg {g : Nat} {w w' : World} {v5 v6 : Value} {k : Nat} {bl : List Nat} {hs h6 : List Bs} (h : Cop g w v5 v6 k bl hs h6) (hb : But g w w') : Cop g w' v5 v6 k bl hs h6 := by
  have hgr := but_grown hb
  refine ⟨h.o5.kept hgr ?_, h.o6.kept hgr ?_, fun j hj => ⟨(h.dig j hj).1, (h.dig j hj).2.but hb (by have := (h.dig j hj).1; omega)⟩, h.nd, h.s5, h.s6⟩
  · right; intro e; have := (h.o5.lt g e).1; omega
  · right; intro e; have := (h.o6.lt g e).1; omega
theorem Cop.butc {g : Nat} {w w' : World} {v5 v6 : Value} {k : Nat} {bl : List Nat} {hs h6 : List Bs} (h : Cop g w v5 v6 (k+1) bl hs h6) (hb : But (bl.getD k 0) w w') : Cop g w' v5 v6 k bl hs h6 := by
  have hgr := but_grown hb
  refine ⟨h.o5.kept hgr ?_, h.o6.kept hgr ?_, fun j hj => ⟨(h.dig j (by omega)).1, (h.dig j (by omega)).2.but hb (h.nd j k (by omega) (by omega) (by omega))⟩,
    fun i j hi hj => h.nd i j (by omega) (by omega), fun q hq => ⟨(h.s5 q hq).1, fun j hj => (h.s5 q hq).2 j (by omega)⟩, fun q hq j hj => h.s6 q hq j (by omega)⟩
  · right; intro e; exact (h.s5 _ e).2 k (by omega) rfl
  · right; intro e; exact h.s6 _ e k (by omega) rfl
theorem getD_old {α : Type} (l : List α) (x d : α) {j : Nat} (h : j < l.length) : (l ++ [x]).getD j d = l.getD j d := by
  simp [List.getD_eq_getElem?_getD, List.getElem?_append_left h]
theorem getD_new {α : Type} (l : List α) (x d : α) : (l ++ [x]).getD l.length d = x := by
  simp [List.getD_eq_getElem?_getD]
theorem Cop.push5 {g : Nat} {w w' : World} {v5 v6 v5' : Value} {bl : List Nat} {hs h6 : List Bs} (h : Cop g w v5 v6 bl.length bl hs h6) (hl : hs.length = bl.length) {b : Nat} {tot : Bs}
    (hd : Dig w b tot) (hg : g < b) (hb : ∀ j, j < bl.length → bl.getD j 0 ≠ b) (hb5 : v5.ownBlock ≠ some b) (hb6 : v6.ownBlock ≠ some b)
    (ho : w'.ownsRow (g+1) 34 1 v5' (bl.length+1) (bl.map P1 ++ [P1 b])) (hgr : w.grownBy w' v5.ownBlock) (hat : v5'.ownBlock = v5.ownBlock ∨ v5'.ownBlock = some w.heap.size) :
    Cop g w' v5' v6 (bl.length+1) (bl ++ [b]) (hs ++ [tot]) h6 := by
  have hdig : ∀ j, j < bl.length + 1 → g < (bl ++ [b]).getD j 0 ∧ Dig w ((bl ++ [b]).getD j 0) ((hs ++ [tot]).getD j []) ∧ v5.ownBlock ≠ some ((bl ++ [b]).getD j 0) ∧ v6.ownBlock ≠ some ((bl ++ [b]).getD j 0) := by
    intro j hj
    by_cases hjl : j < bl.length
    · rw [getD_old _ _ _ hjl, getD_old _ _ _ (by omega)]
      exact ⟨(h.dig j hjl).1, (h.dig j hjl).2, fun e => (h.s5 _ e).2 j hjl rfl, fun e => h.s6 _ e j hjl rfl⟩
    · obtain rfl : j = bl.length := by omega
      rw [getD_new]
      have : (hs ++ [tot]).getD bl.length [] = tot := by rw [← hl, getD_new]
      rw [this]
      exact ⟨hg, hd, hb5, hb6⟩
  refine ⟨by simpa using ho, h.o6.kept hgr ?_, fun j hj => ⟨(hdig j hj).1, (hdig j hj).2.1.grown' hgr (hdig j hj).2.2.1⟩, ?_, ?_, fun q hq j hj e => (hdig j hj).2.2.2 (by rw [e]; exact hq)⟩
  · by_cases h0 : v6.ownBlock = none
    · exact .inl h0
    · right; intro e
      obtain ⟨q, hq⟩ := Option.ne_none_iff_exists'.1 h0
      exact (h.s5 q (by rw [← e]; exact hq)).1 hq
  · intro i j hi hj hij
    by_cases h1 : i < bl.length
    · by_cases h2 : j < bl.length
      · rw [getD_old _ _ _ h1, getD_old _ _ _ h2]; exact h.nd i j h1 h2 hij
      · obtain rfl : j = bl.length := by omega
        rw [getD_old _ _ _ h1, getD_new]; exact hb i h1
    · obtain rfl : i = bl.length := by omega
      rw [getD_new, getD_old _ _ _ (by omega)]; exact fun e => hb j (by omega) e.symm
  · intro q hq
    rcases hat with e | e
    · rw [e] at hq
      exact ⟨(h.s5 q hq).1, fun j hj e2 => (hdig j hj).2.2.1 (by rw [e2]; exact hq)⟩
    · rw [e] at hq; cases hq
      exact ⟨fun e6 => by have := (h.o6.lt _ e6).2; omega, fun j hj e2 => by have := (hdig j hj).2.1.lt; omega⟩
theorem Cop.push6 {g : Nat} {w w' : World} {v5 v6 v6' : Value} {k : Nat} {bl : List Nat} {hs h6 : List Bs} (h : Cop g w v5 v6 k bl hs h6) {tot : Bs}
    (ho : w'.ownsRow (g+1) 9 1 v6' (h6.length+1) (h6.map S ++ [S tot])) (hgr : w.grownBy w' v6.ownBlock) (hat : v6'.ownBlock = v6.ownBlock ∨ v6'.ownBlock = some w.heap.size) :
    Cop g w' v5 v6' k bl hs (h6 ++ [tot]) := by
  refine ⟨h.o5.kept hgr ?_, by simpa using ho, fun j hj => ⟨(h.dig j hj).1, (h.dig j hj).2.grown' hgr fun e => h.s6 _ e j hj rfl⟩, h.nd, ?_, ?_⟩
  · by_cases h0 : v5.ownBlock = none
    · exact .inl h0
    · right; intro e
      obtain ⟨q, hq⟩ := Option.ne_none_iff_exists'.1 h0
      exact (h.s5 q hq).1 (by rw [← e]; exact hq)
  · intro q hq
    refine ⟨fun e6 => ?_, (h.s5 q hq).2⟩
    rcases hat with e | e
    · rw [e] at e6; exact (h.s5 q hq).1 e6
    · rw [e] at e6; cases e6
      have := (h.o5.lt _ hq).2; omega
  · intro q hq j hj e2
    rcases hat with e | e
    · rw [e] at hq; exact h.s6 q hq j hj e2
    · rw [e] at hq; cases hq
      have := (h.dig j hj).2.lt; omega
end Go.Proofs.Ytdjbhbefghihcaa
