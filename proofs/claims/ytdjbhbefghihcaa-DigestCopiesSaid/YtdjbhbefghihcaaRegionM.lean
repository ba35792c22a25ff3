/- In a region that draws: whole values loaded and stored. -/
import Derived.Test.YtdjbhbefghihcaaRegionW
import Derived.Test.YtdjbhbefghihcaaMem
namespace Go.Esc
open Go Go.RowKit
section
variable {P : Program} {ops : Array Oper} {Q : Exit → Act → World → Prop}
theorem op_load {Φ : Value → World → Prop} {i : Nat} {o : Oper} {a' : Act} {w' : World} {v : Value} (ho : ops[i]? = some o) (hg : o.guard = none) (ty : TypeId) (x : Operand) (hop : o.op = .load ty x)
    (ad : Addr) (hx : a'.eval x = .pointer (some ad)) (hl : (loadVar ty ad).run P w' = .ok v w') (hφ : Φ (if o.dst.isSome then v else undef) w') :
    wpOp P ops Q i (fun a'' w'' => ∃ v, a'' = a'.put o.dst v ∧ Φ (if o.dst.isSome then v else undef) w'' ∧ Pu w' w'') a' w' :=
  op_val ho (wanted_none hg) (by unfold execOp; simp only [hop, hx, Instr.loadAt, Instr.sureAddr, Sem.run_bind, Sem.run_pure, Result.andThen_ok, hl]) hφ (Pu.refl _)
theorem op_store {K : Act → World → Prop} {i : Nat} {o : Oper} {a' : Act} {w' w'' : World} {v : Value} (ho : ops[i]? = some o) (hg : o.guard = none) (ty : TypeId) (x y : Operand) (hop : o.op = .store ty x y)
    (ad : Addr) (hx : a'.eval x = .pointer (some ad)) (hy : a'.eval y = v) (hl : (storeVar ty ad v).run P w' = .ok () w'') (hK : K (a'.put o.dst undef) w'') : wpOp P ops Q i K a' w' :=
  op_done ho (wanted_none hg) (by unfold execOp; simp only [hop, hx, hy, Instr.storeAt, Instr.sureAddr, Sem.run_bind, Sem.run_pure, Result.andThen_ok, hl]) hK
end
end Go.Esc
