/- A slice of texts. -/
import Derived.Test.YtoakccknimoogaaGreatT18
namespace Go.Esc
open Go Go.RowKit
/-- The slice holds the texts zs (and those behind its length). -/
def IsStrs (w : World) (a : Option Addr) (len cap : Nat) (zs : List ByteArray) : Prop :=
  (a = none ∧ len = 0 ∧ cap = 0 ∧ zs = []) ∨ ∃ x, a = some x ∧ len ≤ cap ∧ cap ≤ maxLen ∧ zs.length = cap ∧ (∀ i, i < zs.length → w.cell? (x.add i) = some (.string (zs.getD i ByteArray.empty))) ∧ (∀ s ∈ zs, s.size ≤ maxLen)
/-- Text number i of a slice. -/
structure Txt (w : World) (a : Option Addr) (len : Nat) (L : List Bs) : Prop where
  length : L.length = len
  none : a = none → len = 0
  cell : ∀ x, a = some x → ∀ i (h : i < L.length), w.cell? (x.add i) = some (S L[i]) ∧ x.block < w.heap.size
theorem add_block (x : Addr) (i : Nat) : (x.add i).block = x.block := by unfold Addr.add; split <;> rfl
theorem cell_lt {w : World} {p : Addr} {v : Value} (h : w.cell? p = some v) : p.block < w.heap.size := by
  rcases Nat.lt_or_ge p.block w.heap.size with h' | h'
  · exact h'
  · simp [World.cell?, Array.getElem?_eq_none h'] at h
theorem IsStrs.txt {w : World} {a : Option Addr} {len cap : Nat} {zs : List ByteArray} (h : IsStrs w a len cap zs) : ∃ L, Txt w a len L ∧ len ≤ maxLen := by
  rcases h with ⟨rfl, rfl, rfl, rfl⟩ | ⟨x, rfl, hl, hm, hz, hc, hs⟩
  · exact ⟨[], ⟨rfl, fun _ => rfl, fun x hx => by cases hx⟩, by unfold maxLen; omega⟩
  · refine ⟨(zs.take len).map (·.data.toList), ⟨?_, (fun hx => by cases hx), ?_⟩, by omega⟩
    · simp; omega
    · rintro y hy i hi
      cases hy
      simp at hi
      have h1 := hc i (by omega)
      have h2 := cell_lt h1
      rw [add_block] at h2
      refine ⟨?_, h2⟩
      rw [h1]
      simp only [List.getElem_map, List.getElem_take]
      rw [List.getD_eq_getElem?_getD, List.getElem?_eq_getElem (by omega)]
      show some (Value.string zs[i]) = some (Value.string (bs zs[i].data.toList))
      rw [← bs_eta]
theorem Txt.keep {w w' : World} {a : Option Addr} {len : Nat} {L : List Bs} (h : Txt w a len L) (hb : Below w.heap.size w w') : Txt w' a len L := by
  refine ⟨h.length, h.none, fun x hx i hi => ?_⟩
  obtain ⟨h1, h2⟩ := h.cell x hx i hi
  exact ⟨by rw [Below.cell hb (p := x.add i) (by rw [add_block]; exact h2)]; exact h1, Nat.lt_of_lt_of_le h2 hb.size⟩
end Go.Esc
