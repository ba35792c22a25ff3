/- Chapter 16: ShakeTurned: what is not asked, and users that may not be. -/
import Derived.Test.YtlbdbmnkjljohaaGreatLaw16h
set_option linter.unusedSimpArgs false
set_option linter.unusedVariables false
namespace Go.Proofs.YtlbdbmnkjljohaaGreat
open Go.RowKit Go.Esc
set_option maxRecDepth 100000 in
set_option maxHeartbeats 3200000 in
theorem turned_few {w : World} (a0 : Option Addr) (len cap : Nat) (k j at' : Int) (a b : Bs) (y : UInt8) (hno : ¬ (2 ≤ len ∧ len ≤ 10 ∧ y.toNat ≠ 0 ∧ a.length ≤ 60 ∧ b.length ≤ 60)) :
    Calls Tryz.prog 10 #[.slice a0 len cap, .int .i64 k, .int .i64 j, S a, S b, .int .i64 at', .int .u8 (y.toNat : Int)] w fun e w' => e = .returned (.bool true) ∧ Pu w w' := by
  by_cases g0 : len < 2
  · have q0 : (len : Int) < 2 := by omega
    clear hno
    go_enter Tryz.func10, Tryz.ntmps10
    go_wp2_with (go_at_call 12; refine (alive16 _).mono ?_; rintro e w1 ⟨rfl, hp1⟩)
    go_ret
    exact ⟨rfl, hp1⟩
  have q0 : ¬ (len : Int) < 2 := by omega
  by_cases g1 : 10 < len
  · have q1 : (10 : Int) < len := by omega
    clear hno
    go_enter Tryz.func10, Tryz.ntmps10
    go_wp2_with (go_at_call 12; refine (alive16 _).mono ?_; rintro e w1 ⟨rfl, hp1⟩)
    go_ret
    exact ⟨rfl, hp1⟩
  have q1 : ¬ (10 : Int) < len := by omega
  by_cases hy : y.toNat = 0
  · have q2 : ((y.toNat : Int) == 0) = true := by simp; omega
    have q3 : (y.toNat : Int) = 0 := by omega
    clear hno
    go_enter Tryz.func10, Tryz.ntmps10
    go_wp2_with (go_at_call 12; refine (alive16 _).mono ?_; rintro e w1 ⟨rfl, hp1⟩)
    go_ret
    exact ⟨rfl, hp1⟩
  have q2 : ((y.toNat : Int) == 0) = false := by simp; omega
  have q3 : ¬ (y.toNat : Int) = 0 := by omega
  by_cases ha : 60 < a.length
  · have q4 : (60 : Int) < a.length := by omega
    clear hno
    go_enter Tryz.func10, Tryz.ntmps10
    go_wp2_with (go_at_call 12; refine (alive16 _).mono ?_; rintro e w1 ⟨rfl, hp1⟩)
    go_ret
    exact ⟨rfl, hp1⟩
  have q4 : ¬ (60 : Int) < a.length := by omega
  by_cases hb : 60 < b.length
  · have q5 : (60 : Int) < b.length := by omega
    clear hno
    go_enter Tryz.func10, Tryz.ntmps10
    go_wp2_with (go_at_call 12; refine (alive16 _).mono ?_; rintro e w1 ⟨rfl, hp1⟩)
    go_ret
    exact ⟨rfl, hp1⟩
  exact absurd ⟨by omega, by omega, by omega, by omega, by omega⟩ hno
set_option maxRecDepth 100000 in
set_option maxHeartbeats 3200000 in
theorem turned_bad {w : World} (a0 : Option Addr) (len cap : Nat) (L zs : List (Bs × Bs)) (hL : Prs w a0 len L) (hzs : zs = tidyU L) (hgood : ¬ goodUs zs) (k j at' : Int) (a b : Bs) (y : UInt8) (h1 : 2 ≤ len) (h2 : len ≤ 10) (h3 : y.toNat ≠ 0) (h4 : a.length ≤ 60) (h5 : b.length ≤ 60) :
    Calls Tryz.prog 10 #[.slice a0 len cap, .int .i64 k, .int .i64 j, S a, S b, .int .i64 at', .int .u8 (y.toNat : Int)] w fun e w' => e = .returned (.bool true) ∧ Pu w w' := by
  have q0 : ¬ (len : Int) < 2 := by omega
  have q1 : ¬ (10 : Int) < len := by omega
  have q2 : ((y.toNat : Int) == 0) = false := by simp; omega
  have q3 : ¬ (y.toNat : Int) = 0 := by omega
  have q4 : ¬ (60 : Int) < a.length := by omega
  have q5 : ¬ (60 : Int) < b.length := by omega
  have hll := hL.length
  have hsmall : ∀ x ∈ tidyU L, x.1.length ≤ 9223372036854775807 := by
    intro x hx
    obtain ⟨y, hy, rfl⟩ := List.mem_map.1 hx
    have := (hL.small y hy).1
    unfold maxLen at this
    exact this
  have hzl := tidyU_length L
  rw [← hzs] at hsmall hzl
  have hzn : len = zs.length := by omega
  have HL := Lib.hid hL
  have HZS := Lib.hid hzs
  have HSM := Lib.hid hsmall
  have HZN := Lib.hid hzn
  have hg2 := Lib.hid hgood
  clear hL hzs hsmall hll hzl hgood hzn h3
  go_enter Tryz.func10, Tryz.ntmps10
  go_wp2_with (first
    | (go_at_call 12; refine (alive16 _).mono ?_; rintro e w1 ⟨rfl, hp1⟩)
    | (go_at_call 26; refine (tidy (HL.out.keep hp1) (by omega)).mono ?_; rw [← HZS.out]; rintro e w2 ⟨v, rfl, ho, hp2⟩; obtain ⟨g, cv, rfl, hrz⟩ := ownN_form ho (by omega))
    | (go_at_call 27; refine (refUsers zs HZN.out (by omega) (fun _ => ⟨g, rfl, hrz⟩) HSM.out).mono ?_; rintro e w3 ⟨bb, rfl, hbb, hp3⟩; obtain rfl : bb = false := (by cases bb with | false => rfl | true => exact absurd (hbb.1 rfl).1 hg2.out)))
  go_ret
  exact ⟨rfl, Pu.trans hp1 (Pu.trans hp2 hp3)⟩
end Go.Proofs.YtlbdbmnkjljohaaGreat
