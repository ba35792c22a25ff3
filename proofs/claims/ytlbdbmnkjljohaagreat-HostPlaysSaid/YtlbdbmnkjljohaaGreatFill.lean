/- Fill, of however many bytes. -/
import Derived.Test.YtlbdbmnkjljohaaGreatT17
set_option linter.unusedSimpArgs false
set_option linter.unusedVariables false
namespace Go.Proofs.YtlbdbmnkjljohaaGreat
open Go.RowKit Go.Esc
theorem fillL_len (s : Bs) (n : Nat) : (fillL s n).length = n := by unfold fillL; simp; omega
/-- Fill, of however many bytes. -/
theorem fillW (s : Bs) (n : Nat) (hs : s.length ≤ 9223372036854775807) (hn : n ≤ 100000) (w : World) :
    Calls Tryz.prog 16 #[S s, .int .i64 (n : Int)] w fun e w' => e = .returned (S (fillL s n)) ∧ w' = w := by
  by_cases h : s.length ≤ n
  · exact fill s n h hn w
  · have hlt' : decide ((s.length : Int) < n) = false := by simp; omega
    have hle : (n : Int) ≤ s.length := by omega
    have hfin : fillL s n = s.take n := by unfold fillL; rw [List.take_append_of_le_length (by omega)]
    have HF := Lib.hid hfin
    clear hfin
    go_enter Tryz.func16, Tryz.ntmps16
    go_wp2_with fail
    go_loop [0] (fun v => v = S s) (fun _ => 0)
    case atStart => rfl
    case round =>
      obtain rfl := hrel
      go_wp2_with fail
      go_ret
      exact ⟨by rw [HF.out]; rfl, rfl⟩
end Go.Proofs.YtlbdbmnkjljohaaGreat
