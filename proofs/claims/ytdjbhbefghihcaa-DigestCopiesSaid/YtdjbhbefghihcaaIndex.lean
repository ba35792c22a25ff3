/- A part of a whole array. -/
import Derived.Test.YtdjbhbefghihcaaBase
import Derived.ChangeKeysEq
namespace Go.Esc
open Go Go.RowKit
theorem run_index_agg {P : Program} (t e : TypeId) (n : Nat) (ws : List Value) (k : IntKind) (j : Nat) (v : Value) (w : World) (h : P.underlying t = some (.array n e)) (hj : j < n) (hk : P.plainKey e = true)
    (hs : (P.info? e).map (·.size) = some 1) (hv : ws[j]? = some v) : (Instr.index t (.agg ws.toArray) (.int k (j : Int))).run P w = .ok v w := by
  have hn : 0 ≤ (j : Int) ∧ (j : Int) < (n : Int) := by omega
  have hp : (part e ws.toArray j).run P w = .ok v w := run_part_plain w hk (by simpa using hv)
  cases hq : P.info? e with
  | none => simp [hq] at hs
  | some i =>
    have hi : i.size = 1 := by simpa [hq] using hs
    unfold part at hp
    simp [Instr.index, run_underlying h, asIntOf, hj, sizeOf, typeInfo, hq, hi, go_sem]
    simpa [sizeOf, typeInfo, hq, hi, go_sem] using hp
end Go.Esc
