/- A slice of numbers as an argument. -/
import Derived.Test.YticdbilkhkfopaaGreatTxt
namespace Go.Esc
open Go Go.RowKit
/-- The slice holds the numbers zs (and those behind its length). -/
def IsInts (w : World) (a : Option Addr) (len cap : Nat) (zs : List Int) : Prop :=
  (a = none ∧ len = 0 ∧ cap = 0 ∧ zs = []) ∨ ∃ x, a = some x ∧ len ≤ cap ∧ cap ≤ maxLen ∧ zs.length = cap ∧ (∀ i, i < zs.length → w.cell? (x.add i) = some (.int .i64 (zs.getD i 0)))
/-- Number i of a slice. -/
structure Its (w : World) (a : Option Addr) (len : Nat) (L : List Int) : Prop where
  length : L.length = len
  none : a = none → len = 0
  cell : ∀ x, a = some x → ∀ i (h : i < L.length), w.cell? (x.add i) = some (.int .i64 L[i]) ∧ x.block < w.heap.size
theorem IsInts.its {w : World} {a : Option Addr} {len cap : Nat} {zs : List Int} (h : IsInts w a len cap zs) : ∃ L, Its w a len L ∧ len ≤ maxLen := by
  rcases h with ⟨rfl, rfl, rfl, rfl⟩ | ⟨x, rfl, hl, hm, hz, hc⟩
  · exact ⟨[], ⟨rfl, fun _ => rfl, fun x hx => by cases hx⟩, by unfold maxLen; omega⟩
  · refine ⟨zs.take len, ⟨?_, (fun hx => by cases hx), ?_⟩, by omega⟩
    · simp; omega
    · rintro y hy i hi
      cases hy
      simp at hi
      have h1 := hc i (by omega)
      have h2 := cell_lt h1
      rw [add_block] at h2
      refine ⟨?_, h2⟩
      rw [h1]
      simp only [List.getElem_take]
      rw [List.getD_eq_getElem?_getD, List.getElem?_eq_getElem (by omega)]
      rfl
theorem Its.keep {w w' : World} {a : Option Addr} {len : Nat} {L : List Int} (h : Its w a len L) (hb : Below w.heap.size w w') : Its w' a len L := by
  refine ⟨h.length, h.none, fun x hx i hi => ?_⟩
  obtain ⟨h1, h2⟩ := h.cell x hx i hi
  exact ⟨by rw [Below.cell hb (p := x.add i) (by rw [add_block]; exact h2)]; exact h1, Nat.lt_of_lt_of_le h2 hb.size⟩
end Go.Esc
