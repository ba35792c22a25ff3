/- Package shake: a guest that is none. -/
import Derived.Test.YtlbdbmnkjljohaaGreatT17
set_option linter.unusedSimpArgs false
set_option linter.unusedVariables false
namespace Go.Proofs.YtlbdbmnkjljohaaGreat
open Go.RowKit Go.Esc
set_option maxRecDepth 100000 in
theorem helloNil (w : World) : Calls Tryz.prog 24 #[.pointer none] w fun e w' => e = .returned (S []) ∧ w' = w := by
  go_enter Tryz.func24, Tryz.ntmps24
  go_wp2_with fail
  go_ret
  exact ⟨rfl, rfl⟩
set_option maxRecDepth 100000 in
theorem stepNil (w : World) : Calls Tryz.prog 20 #[.pointer none] w fun e w' => e = .returned (.int .i64 0) ∧ w' = w := by
  go_enter Tryz.func20, Tryz.ntmps20
  go_wp2_with fail
  go_ret
  exact ⟨rfl, rfl⟩
set_option maxRecDepth 100000 in
theorem atNil (k : Int) (w : World) : Calls Tryz.prog 45 #[.pointer none, .int .i64 k] w fun e w' => e = .returned (.bool false) ∧ w' = w := by
  go_enter Tryz.func45, Tryz.ntmps45
  go_wp2_with fail
  go_ret
  exact ⟨rfl, rfl⟩
set_option maxRecDepth 100000 in
theorem chalNil (w : World) : Calls Tryz.prog 18 #[.pointer none, S []] w fun e w' => e = .returned (.tuple #[S [], .int .i64 7]) ∧ w' = w := by
  go_enter Tryz.func18, Tryz.ntmps18
  go_wp2_with (go_at_call 45; refine (atNil _ _).mono ?_; rintro e w1 ⟨rfl, rfl⟩)
  go_ret2
  exact ⟨rfl, rfl⟩
set_option maxRecDepth 100000 in
theorem finNil (w : World) : Calls Tryz.prog 22 #[.pointer none, S []] w fun e w' => e = .returned (.tuple #[.agg #[S [], S []], .int .i64 7]) ∧ Pu w w' := by
  have hi2 : (Tryz.prog.info? 44).map (·.size) = some 2 := by kernel_rfl
  have hp0 := (Pu.refl w).alloc (.cells #[.string ⟨#[]⟩, .string ⟨#[]⟩] 44)
  have hr0 : Row (w.alloc (.cells #[.string ⟨#[]⟩, .string ⟨#[]⟩] 44)) w.heap.size 44 [S [], S []] := Row.newAt _ _ _ _ rfl rfl
  go_enter Tryz.func22, Tryz.ntmps22
  go_wp2_with (first
    | (go_at_call 45; refine (atNil _ _).mono ?_; rintro e w1 ⟨rfl, rfl⟩)
    | (refine wpList_store_part rfl 44 (.tmp 4) (.tmp 11) rfl w.heap.size 0 [S [], S []] (by rfl) (by rfl) hr0 hi2 (by simp) (by simp [Value.oneCell']) ?_; intro w9 hr9 hch9))
  rw [splice_all (by rfl)] at hr9
  have hrl := hr9.load (P := Tryz.prog) 44 0 2 Tryz.underlying44 rfl hi2 (by simp)
  (try simp only [Exit.inBlock, Exit.then])
  refine bodyPost_ret (results_cell_slot rfl _ _ rfl rfl hrl) rfl ?_
  have hp9 := hch9.below hp0 (Nat.le_refl _)
  exact ⟨rfl, hp9⟩
end Go.Proofs.YtlbdbmnkjljohaaGreat
