/- A store within a drawn region. -/
import Derived.Test.YtdjbhbefghihcaaRegionG
namespace Go.Esc
open Go Go.RowKit
section
variable {P : Program} {ops : Array Oper} {Q : Exit → Act → World → Prop}
theorem op_doneB {g : Nat} {Φ : Value → World → Prop} {i : Nat} {o : Oper} {a' : Act} {w' w'' : World} (ho : ops[i]? = some o) (hw : Region.wanted o (yielded ops a'.tmps) = true)
    (hrun : (execOp a'.eval o).run P w' = .ok .skip w'') (hφ : Φ (if o.dst.isSome then undef else undef) w'') (hp : But g w' w'') :
    wpOp P ops Q i (fun a'' w'' => ∃ v, a'' = a'.put o.dst v ∧ Φ (if o.dst.isSome then v else undef) w'' ∧ But g w' w'') a' w' := by
  unfold wpOp
  simp only [ho, hw, if_true]
  refine .inl ?_
  unfold Oper.wp
  rw [hrun]
  exact ⟨undef, rfl, hφ, hp⟩
end
end Go.Esc
