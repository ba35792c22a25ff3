/- A slice of truths as an argument. -/
import Derived.Test.YtlbdbmnkjljohaaGreatT17
namespace Go.Esc
open Go Go.RowKit
/-- The slice holds the truths B (and those behind its length). -/
def IsBools (w : World) (a : Option Addr) (len cap : Nat) (B : Nat → Bool) : Prop :=
  (a = none ∧ len = 0 ∧ cap = 0) ∨ ∃ x, a = some x ∧ len ≤ cap ∧ cap ≤ maxLen ∧ ∀ i, i < cap → w.cell? (x.add i) = some (.bool (B i))
structure Bls (w : World) (a : Option Addr) (len : Nat) (B : Nat → Bool) : Prop where
  none : a = none → len = 0
  cell : ∀ x, a = some x → ∀ i, i < len → w.cell? (x.add i) = some (.bool (B i)) ∧ x.block < w.heap.size
theorem cellB_lt {w : World} {p : Addr} {v : Value} (h : w.cell? p = some v) : p.block < w.heap.size := by
  cases hb : w.heap[p.block]? with
  | none => simp [World.cell?, hb] at h
  | some o => exact (Array.getElem?_eq_some_iff.1 hb).1
theorem addB_block (x : Addr) (i : Nat) : (x.add i).block = x.block := by unfold Addr.add; split <;> rfl
theorem IsBools.bls {w : World} {a : Option Addr} {len cap : Nat} {B : Nat → Bool} (h : IsBools w a len cap B) : Bls w a len B ∧ len ≤ maxLen := by
  rcases h with ⟨rfl, rfl, rfl⟩ | ⟨x, rfl, hl, hm, hc⟩
  · exact ⟨⟨fun _ => rfl, fun x hx => (by cases hx)⟩, by unfold maxLen; omega⟩
  · refine ⟨⟨fun hx => (by cases hx), ?_⟩, by omega⟩
    rintro y hy i hi
    cases hy
    have h1 := hc i (by omega)
    have h2 := cellB_lt h1
    rw [addB_block] at h2
    exact ⟨h1, h2⟩
theorem Bls.keep {w w' : World} {a : Option Addr} {len : Nat} {B : Nat → Bool} (h : Bls w a len B) (hb : Below w.heap.size w w') : Bls w' a len B := by
  refine ⟨h.none, fun x hx i hi => ?_⟩
  obtain ⟨h1, h2⟩ := h.cell x hx i hi
  exact ⟨by rw [Below.cell hb (p := x.add i) (by rw [addB_block]; exact h2)]; exact h1, Nat.lt_of_lt_of_le h2 hb.size⟩
end Go.Esc
