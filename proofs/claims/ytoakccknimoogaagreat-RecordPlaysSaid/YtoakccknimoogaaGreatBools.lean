/- A slice of truths as an argument. -/
import Derived.Test.YtoakccknimoogaaGreatT14
namespace Go.Esc
open Go Go.RowKit
structure Bls (w : World) (a : Option Addr) (len : Nat) (B : Nat → Bool) : Prop where
 none : a = none → len = 0
 cell : ∀ x, a = some x → ∀ i, i < len → w.cell? (x.add i) = some (.bool (B i)) ∧ x.block < w.heap.size
theorem cellB_lt {w : World} {p : Addr} {v : Value} (h : w.cell? p = some v) : p.block < w.heap.size := by
 cases hb : w.heap[p.block]? with
 | none => simp [World.cell?, hb] at h
 | some o => exact (Array.getElem?_eq_some_iff.1 hb).1
theorem addB_block (x : Addr) (i : Nat) : (x.add i).block = x.block := by unfold Addr.add; split <;> rfl
theorem Bls.keep {w w' : World} {a : Option Addr} {len : Nat} {B : Nat → Bool} (h : Bls w a len B) (hb : Below w.heap.size w w') : Bls w' a len B := by
 refine ⟨h.none, fun x hx i hi => ?_⟩
 obtain ⟨h1, h2⟩ := h.cell x hx i hi
 exact ⟨by rw [Below.cell hb (p := x.add i) (by rw [addB_block]; exact h2)]; exact h1, Nat.lt_of_lt_of_le h2 hb.size⟩
end Go.Esc
