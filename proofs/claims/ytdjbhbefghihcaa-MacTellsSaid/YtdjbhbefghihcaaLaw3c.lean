/- Chapter 3: MacTells. -/
import Derived.Test.YtdjbhbefghihcaaLaw3b
import Derived.Test.YtdjbhbefghihcaaRefMac
set_option linter.unusedSimpArgs false
set_option linter.unusedVariables false
namespace Go.Proofs.Ytdjbhbefghihcaa
open Go.RowKit Go.Esc
theorem checkYes (key b m : Bs) (h : key.length ≤ 100000) (h2 : b.length ≤ 800000) (he : macL key b = m) (w : World) :
    Calls Try.prog 65 #[S key, S b, S m] w fun e w' => e = .returned (.bool true) ∧ Pu w w' := by
  have := macCheck key b m h h2 (by rw [← he, macL_length]; omega) w
  rwa [decide_eq_true he] at this
set_option maxRecDepth 100000 in
set_option maxHeartbeats 3200000 in
theorem macTells_walk (s : ByteArray) (_ : s.size ≤ maxLen) (s1 : ByteArray) (_ : s1.size ≤ maxLen) (s2 : ByteArray) (_ : s2.size ≤ maxLen) (s3 : ByteArray) (_ : s3.size ≤ maxLen) (w : World) :
    Calls Try.prog 28 #[.string s, .string s1, .string s2, .string s3] w fun e w' => e = .returned (.bool true) ∧ Pu w w' := by
  obtain ⟨key, rfl⟩ : ∃ b, s = bs b := ⟨_, bs_eta s⟩
  obtain ⟨b, rfl⟩ : ∃ b, s1 = bs b := ⟨_, bs_eta s1⟩
  obtain ⟨c, rfl⟩ : ∃ b, s2 = bs b := ⟨_, bs_eta s2⟩
  obtain ⟨d, rfl⟩ : ∃ b, s3 = bs b := ⟨_, bs_eta s3⟩
  by_cases g1 : 300 < key.length
  · have q1 : (300 : Int) < key.length := by omega
    go_enter Try.func28, Try.ntmps28
    go_wp2_with (go_at_call 62; refine (alive3 _).mono ?_; rintro e w1 ⟨rfl, hp1⟩)
    go_ret
    exact ⟨rfl, hp1⟩
  have q1 : decide ((300 : Int) < key.length) = false := by simp; omega
  by_cases g2 : 500 < b.length
  · have q2 : (500 : Int) < b.length := by omega
    go_enter Try.func28, Try.ntmps28
    go_wp2_with (go_at_call 62; refine (alive3 _).mono ?_; rintro e w1 ⟨rfl, hp1⟩)
    go_ret
    exact ⟨rfl, hp1⟩
  have q2 : decide ((500 : Int) < b.length) = false := by simp; omega
  by_cases g3 : 300 < c.length
  · have q3 : (300 : Int) < c.length := by omega
    go_enter Try.func28, Try.ntmps28
    go_wp2_with (go_at_call 62; refine (alive3 _).mono ?_; rintro e w1 ⟨rfl, hp1⟩)
    go_ret
    exact ⟨rfl, hp1⟩
  have q3 : decide ((300 : Int) < c.length) = false := by simp; omega
  by_cases g4 : 300 < d.length
  · have q4 : (300 : Int) < d.length := by omega
    go_enter Try.func28, Try.ntmps28
    go_wp2_with (go_at_call 62; refine (alive3 _).mono ?_; rintro e w1 ⟨rfl, hp1⟩)
    go_ret
    exact ⟨rfl, hp1⟩
  have q4 : decide ((300 : Int) < d.length) = false := by simp; omega
  obtain ⟨m, hm⟩ : ∃ m, m = macL key b := ⟨_, rfl⟩
  have hml : m.length = 32 := by rw [hm]; exact macL_length _ _
  have hRM := fun w => refMac key b (by omega) (by omega) w
  have hM := fun w => macOf key b (by omega) (by omega) w
  rw [← hm] at hRM hM
  have hC1 := fun w => checkYes key b m (by omega) (by omega) hm.symm w
  have HRM := Lib.hid hRM
  have HM := Lib.hid hM
  have HC1 := Lib.hid hC1
  clear hRM hM hC1
  by_cases hcd : c = d
  · subst hcd
    have hS := fun w => same_self c (by omega) w
    have HS := Lib.hid hS
    clear hS
    by_cases hcm : c = m
    · have hC2 := fun w => checkYes key b c (by omega) (by omega) (by rw [← hm, hcm]) w
      have HC2 := Lib.hid hC2
      have hcm' : (c == m) = true := by simp [hcm]
      clear hC2 hm
      subst hcm
      go_enter Try.func28, Try.ntmps28
      go_wp2_with (first
        | (go_at_call 62; refine (alive3 _).mono ?_; rintro e w1 ⟨rfl, hp1⟩)
        | (go_at_call 61; refine (HRM.out _).mono ?_; rintro e w2 ⟨rfl, hp2⟩)
        | (go_at_call 63; refine (HM.out _).mono ?_; rintro e w3 ⟨rfl, hp3⟩)
        | (go_at_call 64; refine (HS.out _).mono ?_; rintro e w4 ⟨rfl, hp4⟩)
        | (go_at_call 65; first
           | (refine (HC1.out _).mono ?_; rintro e w5 ⟨rfl, hp5⟩; clear HC1)
           | (refine (HC2.out _).mono ?_; rintro e w6 ⟨rfl, hp6⟩)))
      go_ret
      exact ⟨by simp, ((((hp1.trans hp2).trans hp3).trans hp4).trans hp5).trans hp6⟩
    · have hC2 := fun w => checkNot key b c (by omega) (by omega) (by omega) (by rw [← hm]; exact Ne.symm hcm) w
      have HC2 := Lib.hid hC2
      have hcm' : (c == m) = false := by simp [hcm]
      clear hC2 hm
      go_enter Try.func28, Try.ntmps28
      go_wp2_with (first
        | (go_at_call 62; refine (alive3 _).mono ?_; rintro e w1 ⟨rfl, hp1⟩)
        | (go_at_call 61; refine (HRM.out _).mono ?_; rintro e w2 ⟨rfl, hp2⟩)
        | (go_at_call 63; refine (HM.out _).mono ?_; rintro e w3 ⟨rfl, hp3⟩)
        | (go_at_call 64; refine (HS.out _).mono ?_; rintro e w4 ⟨rfl, hp4⟩)
        | (go_at_call 65; first
           | (refine (HC1.out _).mono ?_; rintro e w5 ⟨rfl, hp5⟩; clear HC1)
           | (refine (HC2.out _).mono ?_; rintro e w6 ⟨rfl, hp6⟩)))
      go_ret
      exact ⟨by simp, ((((hp1.trans hp2).trans hp3).trans hp4).trans hp5).trans hp6⟩
  · have hS := fun w => same_not c d hcd (by omega) (by omega) w
    have HS := Lib.hid hS
    have hcd' : (c == d) = false := by simp [hcd]
    clear hS
    by_cases hcm : c = m
    · have hC2 := fun w => checkYes key b c (by omega) (by omega) (by rw [← hm, hcm]) w
      have HC2 := Lib.hid hC2
      clear hC2 hm
      subst hcm
      go_enter Try.func28, Try.ntmps28
      go_wp2_with (first
        | (go_at_call 62; refine (alive3 _).mono ?_; rintro e w1 ⟨rfl, hp1⟩)
        | (go_at_call 61; refine (HRM.out _).mono ?_; rintro e w2 ⟨rfl, hp2⟩)
        | (go_at_call 63; refine (HM.out _).mono ?_; rintro e w3 ⟨rfl, hp3⟩)
        | (go_at_call 64; refine (HS.out _).mono ?_; rintro e w4 ⟨rfl, hp4⟩)
        | (go_at_call 65; first
           | (refine (HC1.out _).mono ?_; rintro e w5 ⟨rfl, hp5⟩; clear HC1)
           | (refine (HC2.out _).mono ?_; rintro e w6 ⟨rfl, hp6⟩)))
      go_ret
      exact ⟨by simp, ((((hp1.trans hp2).trans hp3).trans hp4).trans hp5).trans hp6⟩
    · have hC2 := fun w => checkNot key b c (by omega) (by omega) (by omega) (by rw [← hm]; exact Ne.symm hcm) w
      have HC2 := Lib.hid hC2
      have hcm' : (c == m) = false := by simp [hcm]
      clear hC2 hm
      go_enter Try.func28, Try.ntmps28
      go_wp2_with (first
        | (go_at_call 62; refine (alive3 _).mono ?_; rintro e w1 ⟨rfl, hp1⟩)
        | (go_at_call 61; refine (HRM.out _).mono ?_; rintro e w2 ⟨rfl, hp2⟩)
        | (go_at_call 63; refine (HM.out _).mono ?_; rintro e w3 ⟨rfl, hp3⟩)
        | (go_at_call 64; refine (HS.out _).mono ?_; rintro e w4 ⟨rfl, hp4⟩)
        | (go_at_call 65; first
           | (refine (HC1.out _).mono ?_; rintro e w5 ⟨rfl, hp5⟩; clear HC1)
           | (refine (HC2.out _).mono ?_; rintro e w6 ⟨rfl, hp6⟩)))
      go_ret
      exact ⟨by simp, ((((hp1.trans hp2).trans hp3).trans hp4).trans hp5).trans hp6⟩
end Go.Proofs.Ytdjbhbefghihcaa
