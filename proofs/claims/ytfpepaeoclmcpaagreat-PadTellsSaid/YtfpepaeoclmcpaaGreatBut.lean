/- Worlds that differ in new blocks and in one. -/
import Derived.Test.YtfpepaeoclmcpaaGreatBase
namespace Go.Esc
open Go Go.RowKit
/-- w' has new blocks, and block g may be changed. -/
structure But (g : Nat) (w w' : World) : Prop where
  os : w'.os = w.os
  tape : w'.tape = w.tape
  output : w'.output = w.output
  size : w.heap.size ≤ w'.heap.size
  block : ∀ k, k < w.heap.size → k ≠ g → w'.heap[k]? = w.heap[k]?
theorem But.refl (g : Nat) (w : World) : But g w w := ⟨rfl, rfl, rfl, Nat.le_refl _, fun _ _ _ => rfl⟩
theorem But.trans {g : Nat} {a b c : World} (h : But g a b) (k : But g b c) : But g a c :=
  ⟨k.os.trans h.os, k.tape.trans h.tape, k.output.trans h.output, Nat.le_trans h.size k.size, fun i hi hg => (k.block i (Nat.lt_of_lt_of_le hi h.size) hg).trans (h.block i hi hg)⟩
theorem But.pu {g : Nat} {a b : World} (h : Pu a b) : But g a b := ⟨h.os, h.tape, h.output, h.size, fun i hi _ => h.block i hi⟩
theorem But.set {g : Nat} (a : World) (o : Nat) (v : Value) : But g a (a.setCell ⟨g, o, none⟩ v) := ⟨rfl, rfl, rfl, by simp, fun _ _ hg => Below.heap_setCell _ _ _ _ hg⟩
theorem But.row {g k : Nat} {w w' : World} (h : But g w w') {e : TypeId} {xs : List Value} (hr : Row w k e xs) (hk : k ≠ g) : Row w' k e xs := hr.other (h.block k hr.lt hk)
theorem But.below {B g : Nat} {a w w' : World} (h : Below B a w) (k : But g w w') (hg : B ≤ g) (hB : B ≤ w.heap.size) : Below B a w' :=
  h.trans ⟨k.os, k.tape, k.output, k.size, fun i hi => k.block i (by omega) (by omega)⟩
end Go.Esc
