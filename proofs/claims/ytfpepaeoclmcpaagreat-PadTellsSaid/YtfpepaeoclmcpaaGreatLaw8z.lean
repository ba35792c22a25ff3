/- Chapter 8: the first call, for the great seat. -/
import Derived.Test.YtfpepaeoclmcpaaGreatPad
import Derived.Deep.RegionWith
set_option linter.unusedSimpArgs false
set_option linter.unusedVariables false
namespace Go.Proofs.YtfpepaeoclmcpaaGreat
open Go.RowKit Go.Esc
theorem pad_abc : padL [97, 98, 99] = some ([0, 3, 97, 98, 99] ++ List.replicate 27 0) := by decide +kernel
theorem unpad_abc : unpadL ([0, 3, 97, 98, 99] ++ List.replicate 27 0) = some [97, 98, 99] := by decide +kernel

set_option maxHeartbeats 800000 in
set_option maxRecDepth 100000 in
theorem alive8 (w : World) : Calls Tryz.prog 4 #[] w fun e w' => e = .returned (.bool true) ∧ Pu w w' := by
  have hp := fun w => pad [97, 98, 99] w (by decide)
  rw [pad_abc] at hp
  have hu := fun w => unpad ([0, 3, 97, 98, 99] ++ List.replicate 27 0) w (by decide)
  rw [unpad_abc] at hu
  obtain ⟨q, hq⟩ : ∃ q : List UInt8, q = [0, 3, 97, 98, 99] ++ List.replicate 27 0 := ⟨_, rfl⟩
  have hl : q.length = 32 := by rw [hq]; rfl
  have ht : q.take 5 = [0, 3, 97, 98, 99] := by rw [hq]; rfl
  rw [← hq] at hp hu
  clear hq
  have HP := Lib.hid hp
  have HU := Lib.hid hu
  clear hp hu
  go_enter Tryz.func4, Tryz.ntmps4
  go_wp2_with (first | (go_at_call 9; refine (HP.out _).mono ?_; rintro e w1 ⟨rfl, hb1⟩) | (go_at_call 11; refine (HU.out _).mono ?_; rintro e w2 ⟨rfl, hb2⟩) | (go_at_call 6; refine (sizes _).mono ?_; rintro e w3 ⟨g, cap, rfl, hb3, -⟩))
  go_ret
  exact ⟨rfl, (hb1.trans hb2).trans hb3⟩
end Go.Proofs.YtfpepaeoclmcpaaGreat
