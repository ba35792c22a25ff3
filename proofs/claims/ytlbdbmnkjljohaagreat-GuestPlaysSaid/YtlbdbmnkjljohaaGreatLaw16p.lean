/- Chapter 16: GuestPlays: what is not asked, and a guest that is none. -/
import Derived.Test.YtlbdbmnkjljohaaGreatT17
import Derived.Test.YtlbdbmnkjljohaaGreatFill
import Derived.Test.YtlbdbmnkjljohaaGreatGuestN
import Derived.Test.YtlbdbmnkjljohaaGreatOps
set_option linter.unusedSimpArgs false
set_option linter.unusedVariables false
namespace Go.Proofs.YtlbdbmnkjljohaaGreat
open Go.RowKit Go.Esc
set_option maxRecDepth 100000 in
set_option maxHeartbeats 3200000 in
theorem guest_few {w : World} (nm sc na : Bs) (a0 : Option Addr) (len cap : Nat) (hno : ¬ (len ≤ 20 ∧ nm.length ≤ 100 ∧ sc.length ≤ 100 ∧ na.length ≤ 60)) :
    Calls Tryz.prog 3 #[.agg #[S nm, S sc], S na, .slice a0 len cap] w fun e w' => e = .returned (.bool true) ∧ Pu w w' := by
  have hp0 := (Pu.refl w).alloc (.cells #[S nm, S sc] 23)
  by_cases g0 : 20 < len
  · have q0 : (20 : Int) < len := by omega
    clear hno
    go_enter Tryz.func3, Tryz.ntmps3
    go_wp2_with (go_at_call 12; refine (alive16 _).mono ?_; rintro e w1 ⟨rfl, hp1⟩)
    go_ret
    exact ⟨rfl, hp0.trans hp1⟩
  have q0 : ¬ (20 : Int) < len := by omega
  by_cases g1 : 100 < nm.length
  · have q1 : (100 : Int) < nm.length := by omega
    clear hno
    go_enter Tryz.func3, Tryz.ntmps3
    go_wp2_with (go_at_call 12; refine (alive16 _).mono ?_; rintro e w1 ⟨rfl, hp1⟩)
    go_ret
    exact ⟨rfl, hp0.trans hp1⟩
  have q1 : ¬ (100 : Int) < nm.length := by omega
  by_cases g2 : 100 < sc.length
  · have q2 : (100 : Int) < sc.length := by omega
    clear hno
    go_enter Tryz.func3, Tryz.ntmps3
    go_wp2_with (go_at_call 12; refine (alive16 _).mono ?_; rintro e w1 ⟨rfl, hp1⟩)
    go_ret
    exact ⟨rfl, hp0.trans hp1⟩
  have q2 : ¬ (100 : Int) < sc.length := by omega
  by_cases g3 : 60 < na.length
  · have q3 : (60 : Int) < na.length := by omega
    clear hno
    go_enter Tryz.func3, Tryz.ntmps3
    go_wp2_with (go_at_call 12; refine (alive16 _).mono ?_; rintro e w1 ⟨rfl, hp1⟩)
    go_ret
    exact ⟨rfl, hp0.trans hp1⟩
  exact absurd ⟨by omega, by omega, by omega, by omega⟩ hno
set_option maxRecDepth 100000 in
set_option maxHeartbeats 3200000 in
theorem guest_bad {w : World} (nm sc na : Bs) (a0 : Option Addr) (len cap : Nat) (h0 : len ≤ 20) (h1 : nm.length ≤ 100) (h2 : sc.length ≤ 100) (h3 : na.length ≤ 60) (hbad : ¬ guestOk nm sc na) :
    Calls Tryz.prog 3 #[.agg #[S nm, S sc], S na, .slice a0 len cap] w fun e w' => e = .returned (.bool true) ∧ Pu w w' := by
  have hp0 := (Pu.refl w).alloc (.cells #[S nm, S sc] 23)
  have hr0 : Row (w.alloc (.cells #[S nm, S sc] 23)) w.heap.size 23 [S nm, S sc] := Row.newAt _ _ _ _ rfl rfl
  have hi2 : (Tryz.prog.info? 23).map (·.size) = some 2 := by kernel_rfl
  have q0 : ¬ (20 : Int) < len := by omega
  have q1 : ¬ (100 : Int) < nm.length := by omega
  have q2 : ¬ (100 : Int) < sc.length := by omega
  have q3 : ¬ (60 : Int) < na.length := by omega
  have hNg := fun w => newGuestNo nm sc na hbad (by omega) (by omega) (by omega) w
  have hUs := fun w => refUser nm sc (by omega) (by omega) w
  have HNG := Lib.hid hNg
  cases hu : userB nm sc with
  | false =>
    rw [hu] at hUs
    have HUS := Lib.hid hUs
    clear hNg hUs hu hbad
    go_enter Tryz.func3, Tryz.ntmps3
    go_wp2_with (first
      | (go_at_call 12; refine (alive16 _).mono ?_; rintro e w1 ⟨rfl, hp1⟩)
      | (refine wpList_load_row rfl 23 (.tmp 3) rfl w.heap.size [S nm, S sc] (by rfl) (hr0.pu hp1) Tryz.underlying23 rfl hi2 ?_)
      | (go_at_call 13; refine (HNG.out _).mono ?_; rintro e w2 ⟨rfl, hp2⟩)
      | (refine wpList_load_row rfl 23 (.tmp 3) rfl w.heap.size [S nm, S sc] (by rfl) ((hr0.pu hp1).pu hp2) Tryz.underlying23 rfl hi2 ?_)
      | (go_at_call 14; refine (HUS.out _).mono ?_; rintro e w3 ⟨rfl, hp3⟩))
    go_ret
    exact ⟨rfl, ((hp0.trans hp1).trans hp2).trans hp3⟩
  | true =>
    rw [hu] at hUs
    have HUS := Lib.hid hUs
    have hl : ¬ na.length = 16 := fun h => hbad ⟨hu, h⟩
    have q4 : ((na.length : Int) != 16) = true := by simp; omega
    have q5 : ¬ (na.length : Int) = 16 := by omega
    clear hNg hUs hu hbad hl
    go_enter Tryz.func3, Tryz.ntmps3
    go_wp2_with (first
      | (go_at_call 12; refine (alive16 _).mono ?_; rintro e w1 ⟨rfl, hp1⟩)
      | (refine wpList_load_row rfl 23 (.tmp 3) rfl w.heap.size [S nm, S sc] (by rfl) (hr0.pu hp1) Tryz.underlying23 rfl hi2 ?_)
      | (go_at_call 13; refine (HNG.out _).mono ?_; rintro e w2 ⟨rfl, hp2⟩)
      | (refine wpList_load_row rfl 23 (.tmp 3) rfl w.heap.size [S nm, S sc] (by rfl) ((hr0.pu hp1).pu hp2) Tryz.underlying23 rfl hi2 ?_)
      | (go_at_call 14; refine (HUS.out _).mono ?_; rintro e w3 ⟨rfl, hp3⟩))
    go_ret
    exact ⟨rfl, ((hp0.trans hp1).trans hp2).trans hp3⟩
end Go.Proofs.YtlbdbmnkjljohaaGreat
