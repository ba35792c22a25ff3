/- What the program knows of numbers. -/
import Derived.Test.YticdbilkhkfopaaGreatOctet
namespace Go.Proofs.YticdbilkhkfopaaGreat
open Go.RowKit Go.Esc
theorem infoI : (Tryz.prog.info? 3).map (fun i => (i.zero, i.size, i.bytes)) = some (some (.int .i64 0), 1, 8) := by kernel_rfl
theorem infoW : (Tryz.prog.info? 150).map (fun i => (i.zero, i.size, i.bytes)) = some (some (.int .u32 0), 1, 4) := by kernel_rfl
end Go.Proofs.YticdbilkhkfopaaGreat
