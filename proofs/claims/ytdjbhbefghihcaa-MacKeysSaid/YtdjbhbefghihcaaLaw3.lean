/- Chapter 3: the first call, MacSames, and mac.Check. -/
import Derived.Test.YtdjbhbefghihcaaMac
import Derived.Test.YtdjbhbefghihcaaHexEnc
set_option linter.unusedSimpArgs false
set_option linter.unusedVariables false
namespace Go.Esc
def jefe : Bs := [74,101,102,101]
def nothing28 : Bs := [119,104,97,116,32,100,111,32,121,97,32,119,97,110,116,32,102,111,114,32,110,111,116,104,105,110,103,63]
def jefeHex : Bs := [53,98,100,99,99,49,52,54,98,102,54,48,55,53,52,101,54,97,48,52,50,52,50,54,48,56,57,53,55,53,99,55,53,97,48,48,51,102,48,56,57,100,50,55,51,57,56,51,57,100,101,99,53,56,98,57,54,52,101,99,51,56,52,51]
set_option maxRecDepth 100000 in
theorem jefe_mac : hex (macL jefe nothing28) = jefeHex := by decide +kernel
end Go.Esc
namespace Go.Proofs.Ytdjbhbefghihcaa
open Go.RowKit Go.Esc
theorem same_self (a : Bs) (h : a.length ≤ 1000000) (w : World) : Calls Try.prog 64 #[S a, S a] w fun e w' => e = .returned (.bool true) ∧ Pu w w' := by
  have := same a a h h w
  rwa [decide_eq_true rfl] at this
theorem same_not (a b : Bs) (hne : a ≠ b) (h : a.length ≤ 1000000) (h2 : b.length ≤ 1000000) (w : World) : Calls Try.prog 64 #[S a, S b] w fun e w' => e = .returned (.bool false) ∧ Pu w w' := by
  have := same a b h h2 w
  rwa [decide_eq_false hne] at this
set_option maxRecDepth 100000 in
set_option maxHeartbeats 3200000 in
theorem alive3 (w : World) : Calls Try.prog 62 #[] w fun e w' => e = .returned (.bool true) ∧ Pu w w' := by
  obtain ⟨d, hd⟩ : ∃ d, d = macL jefe nothing28 := ⟨_, rfl⟩
  have hdl : d.length = 32 := by rw [hd]; exact macL_length _ _
  have hM := fun w => macOf jefe nothing28 (by decide) (by decide) w
  rw [← hd] at hM
  have hH := fun w => hexOf d (by omega) w
  have hbq : (ByteArray.mk #[53,98,100,99,99,49,52,54,98,102,54,48,55,53,52,101,54,97,48,52,50,52,50,54,48,56,57,53,55,53,99,55,53,97,48,48,51,102,48,56,57,100,50,55,51,57,56,51,57,100,101,99,53,56,98,57,54,52,101,99,51,56,52,51]) = bs (hex d) := by rw [hd, jefe_mac]; rfl
  obtain ⟨hexd, hhexd⟩ : ∃ h, h = hex d := ⟨_, rfl⟩
  rw [← hhexd] at hbq hH
  have hs1 := fun w => same_self [97] (by decide) w
  have hs2 := fun w => same_not [97] [98] (by decide) (by decide) (by decide) w
  have HM := Lib.hid hM
  have HH := Lib.hid hH
  have HS1 := Lib.hid hs1
  have HS2 := Lib.hid hs2
  clear hM hH hs1 hs2 hd hhexd
  go_enter Try.func62, Try.ntmps62
  go_wp2_with (first
    | (go_at_call 63; refine (HM.out _).mono ?_; rintro e w1 ⟨rfl, hp1⟩)
    | (go_at_call 79; refine (HH.out _).mono ?_; rintro e w2 ⟨rfl, hp2⟩)
    | (go_at_call 64; first
       | (refine (HS1.out _).mono ?_; rintro e w3 ⟨rfl, hp3⟩; clear HS1)
       | (refine (HS2.out _).mono ?_; rintro e w4 ⟨rfl, hp4⟩)))
  go_ret
  exact ⟨rfl, ((hp1.trans hp2).trans hp3).trans hp4⟩
theorem macCheck (key b m : Bs) (h : key.length ≤ 100000) (h2 : b.length ≤ 800000) (h3 : m.length ≤ 1000000) (w : World) :
    Calls Try.prog 65 #[S key, S b, S m] w fun e w' => e = .returned (.bool (decide (macL key b = m))) ∧ Pu w w' := by
  have hM := fun w => macOf key b h h2 w
  obtain ⟨d, hd⟩ : ∃ d, d = macL key b := ⟨_, rfl⟩
  have hdl : d.length = 32 := by rw [hd]; exact macL_length _ _
  rw [← hd] at hM ⊢
  have hS := fun w => same d m (by omega) h3 w
  obtain ⟨r, hr⟩ : ∃ r, r = decide (d = m) := ⟨_, rfl⟩
  rw [← hr] at hS ⊢
  have HM := Lib.hid hM
  have HS := Lib.hid hS
  clear hM hS hd hr
  go_enter Try.func65, Try.ntmps65
  go_wp2_with (first
    | (go_at_call 63; refine (HM.out _).mono ?_; rintro e w1 ⟨rfl, hp1⟩)
    | (go_at_call 64; refine (HS.out _).mono ?_; rintro e w3 ⟨rfl, hp3⟩))
  go_ret
  exact ⟨rfl, hp1.trans hp3⟩
set_option maxRecDepth 100000 in
set_option maxHeartbeats 3200000 in
theorem macSames_walk (s : ByteArray) (_ : s.size ≤ maxLen) (s' : ByteArray) (_ : s'.size ≤ maxLen) (w : World) :
    Calls Try.prog 26 #[.string s, .string s'] w fun e w' => e = .returned (.bool true) ∧ Pu w w' := by
  obtain ⟨a, rfl⟩ : ∃ b, s = bs b := ⟨_, bs_eta s⟩
  obtain ⟨b, rfl⟩ : ∃ b, s' = bs b := ⟨_, bs_eta s'⟩
  by_cases hg : 200 < a.length
  · have g1 : (200 : Int) < a.length := by omega
    go_enter Try.func26, Try.ntmps26
    go_wp2_with (go_at_call 62; refine (alive3 _).mono ?_; rintro e w1 ⟨rfl, hp1⟩)
    go_ret
    exact ⟨rfl, hp1⟩
  have g1 : decide ((200 : Int) < a.length) = false := by simp; omega
  by_cases hg2 : 200 < b.length
  · have g2 : (200 : Int) < b.length := by omega
    go_enter Try.func26, Try.ntmps26
    go_wp2_with (go_at_call 62; refine (alive3 _).mono ?_; rintro e w1 ⟨rfl, hp1⟩)
    go_ret
    exact ⟨rfl, hp1⟩
  have g2 : decide ((200 : Int) < b.length) = false := by simp; omega
  have k120 : (ByteArray.mk #[120]) = bs [120] := rfl
  have hz9 : ¬ (9223372036854775807 < a.length + 1) := by omega
  have hAA := fun w => same_self a (by omega) w
  have hAX := fun w => same_not a (a ++ [120]) (by intro h; have := congrArg List.length h; simp at this) (by omega) (by simp; omega) w
  have HAA := Lib.hid hAA
  have HAX := Lib.hid hAX
  clear hAA hAX
  by_cases hab : a = b
  · subst hab
    go_enter Try.func26, Try.ntmps26
    go_wp2_with (first
      | (go_at_call 62; refine (alive3 _).mono ?_; rintro e w1 ⟨rfl, hpu⟩)
      | (go_at_call 64; first
         | (with_reducible refine (HAA.out _).mono ?_
            rintro e w4 ⟨rfl, hp⟩; replace hpu := hpu.trans hp)
         | (with_reducible refine (HAX.out _).mono ?_
            rintro e w4 ⟨rfl, hp⟩; replace hpu := hpu.trans hp)))
    go_ret
    exact ⟨rfl, hpu⟩
  · have hAB := fun w => same_not a b hab (by omega) (by omega) w
    have hBA := fun w => same_not b a (Ne.symm hab) (by omega) (by omega) w
    have HAB := Lib.hid hAB
    have HBA := Lib.hid hBA
    clear hAB hBA hab
    go_enter Try.func26, Try.ntmps26
    go_wp2_with (first
      | (go_at_call 62; refine (alive3 _).mono ?_; rintro e w1 ⟨rfl, hpu⟩)
      | (go_at_call 64; first
         | (with_reducible refine (HAA.out _).mono ?_
            rintro e w4 ⟨rfl, hp⟩; replace hpu := hpu.trans hp)
         | (with_reducible refine (HAX.out _).mono ?_
            rintro e w4 ⟨rfl, hp⟩; replace hpu := hpu.trans hp)
         | (with_reducible refine (HAB.out _).mono ?_
            rintro e w4 ⟨rfl, hp⟩; replace hpu := hpu.trans hp)
         | (with_reducible refine (HBA.out _).mono ?_
            rintro e w4 ⟨rfl, hp⟩; replace hpu := hpu.trans hp)))
    go_ret
    exact ⟨rfl, hpu⟩
end Go.Proofs.Ytdjbhbefghihcaa
