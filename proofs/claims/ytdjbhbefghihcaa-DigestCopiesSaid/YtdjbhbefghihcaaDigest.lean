/- Contracts of package digest. -/
import Derived.Test.YtdjbhbefghihcaaMade
import Derived.Test.YtdjbhbefghihcaaShelf2
set_option linter.unusedSimpArgs false
set_option linter.unusedVariables false
namespace Go.Proofs.Ytdjbhbefghihcaa
open Go.RowKit Go.Esc
theorem clone (l : List UInt8) (hl : l.length ≤ 281474976710656) (w : World) :
    Calls Try.prog 107 #[S l] w fun e w' => e = .returned (S l) ∧ Pu w w' := by
  have hc := fun w => Try.stringslite_Clone (bs l) w (by rw [bs_size]; exact hl)
  have HC := Lib.hid hc
  clear hc
  go_enter Try.func107, Try.ntmps107
  go_wp2_with (go_at_call 136; refine (HC.out _).mono ?_; rintro e w1 ⟨rfl, hp1⟩)
  go_ret
  exact ⟨rfl, hp1⟩
end Go.Proofs.Ytdjbhbefghihcaa
