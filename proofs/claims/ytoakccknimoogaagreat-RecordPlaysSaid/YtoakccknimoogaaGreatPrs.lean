/- A slice of pairs of texts as an argument. -/
import Derived.Test.YtoakccknimoogaaGreatBools
import Derived.Test.YtoakccknimoogaaGreatT14
namespace Go.Esc
open Go Go.RowKit
structure Prs (w : World) (a : Option Addr) (len : Nat) (L : List (Bs × Bs)) : Prop where
 length : L.length = len
 none : a = none → len = 0
 cell : ∀ x, a = some x → ∀ i (h : i < L.length), w.cell? (x.add (i * 2)) = some (S (L[i]).1) ∧ w.cell? (x.add (i * 2 + 1)) = some (S (L[i]).2) ∧ x.block < w.heap.size
 small : ∀ y ∈ L, y.1.length ≤ maxLen ∧ y.2.length ≤ maxLen
theorem Prs.keep {w w' : World} {a : Option Addr} {len : Nat} {L : List (Bs × Bs)} (h : Prs w a len L) (hb : Below w.heap.size w w') : Prs w' a len L := by
 refine ⟨h.length, h.none, fun x hx i hi => ?_, h.small⟩
 obtain ⟨h1, h2, h3⟩ := h.cell x hx i hi
 exact ⟨by rw [Below.cell hb (p := x.add (i * 2)) (by rw [addB_block]; exact h3)]; exact h1, by rw [Below.cell hb (p := x.add (i * 2 + 1)) (by rw [addB_block]; exact h3)]; exact h2, Nat.lt_of_lt_of_le h3 hb.size⟩
end Go.Esc
