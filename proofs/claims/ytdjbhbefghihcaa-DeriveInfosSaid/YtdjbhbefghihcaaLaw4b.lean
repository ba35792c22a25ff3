/- Chapter 4: DeriveLong, DeriveBlocks. -/
import Derived.Test.YtdjbhbefghihcaaLaw4
set_option linter.unusedSimpArgs false
set_option linter.unusedVariables false
namespace Go.Proofs.Ytdjbhbefghihcaa
open Go.RowKit Go.Esc
theorem outE_prefix (k i : Bs) (a d : Nat) : (outE k i (a + d)).take (32 * a) = outE k i a := by
  induction d with
  | zero => rw [Nat.add_zero, List.take_of_length_le (by rw [outE_length]; exact Nat.le_refl _)]
  | succ d ih => rw [← Nat.add_assoc, outE, List.take_append_of_le_length (by rw [outE_length]; omega), ih]
theorem expandL_prefix (k i : Bs) (n m : Nat) (h : n ≤ m) : (expandL k i m).take n = expandL k i n := by
  obtain ⟨d, hd⟩ : ∃ d, (m + 31) / 32 = (n + 31) / 32 + d := ⟨(m + 31) / 32 - (n + 31) / 32, by omega⟩
  rw [expandL, expandL, List.take_take, Nat.min_eq_left h, ← outE_prefix k i ((n + 31) / 32) d, ← hd, List.take_take, Nat.min_eq_left (by omega)]
set_option maxRecDepth 100000 in
set_option maxHeartbeats 3200000 in
theorem deriveLong_walk (s : ByteArray) (_ : s.size ≤ maxLen) (s1 : ByteArray) (_ : s1.size ≤ maxLen) (n : Int) (_ : (Lit.int .i64 n).wf = true) (m : Int) (_ : (Lit.int .i64 m).wf = true) (w : World) :
    Calls Try.prog 21 #[.string s, .string s1, .int .i64 n, .int .i64 m] w fun e w' => e = .returned (.bool true) ∧ Pu w w' := by
  obtain ⟨key, rfl⟩ : ∃ b, s = bs b := ⟨_, bs_eta s⟩
  obtain ⟨info, rfl⟩ : ∃ b, s1 = bs b := ⟨_, bs_eta s1⟩
  by_cases g1 : 100 < key.length
  · have q1 : (100 : Int) < key.length := by omega
    go_enter Try.func21, Try.ntmps21
    go_wp2_with (go_at_call 54; refine (alive4 _).mono ?_; rintro e w1 ⟨rfl, hp1⟩)
    go_ret
    exact ⟨rfl, hp1⟩
  have q1 : decide ((100 : Int) < key.length) = false := by simp; omega
  by_cases g2 : 100 < info.length
  · have q2 : (100 : Int) < info.length := by omega
    go_enter Try.func21, Try.ntmps21
    go_wp2_with (go_at_call 54; refine (alive4 _).mono ?_; rintro e w1 ⟨rfl, hp1⟩)
    go_ret
    exact ⟨rfl, hp1⟩
  have q2 : decide ((100 : Int) < info.length) = false := by simp; omega
  by_cases g3 : n < 0
  · skip
    go_enter Try.func21, Try.ntmps21
    go_wp2_with (go_at_call 54; refine (alive4 _).mono ?_; rintro e w1 ⟨rfl, hp1⟩)
    go_ret
    exact ⟨rfl, hp1⟩
  have q3 : decide (n < 0) = false := by simp; omega
  by_cases g4 : m < n
  · skip
    go_enter Try.func21, Try.ntmps21
    go_wp2_with (go_at_call 54; refine (alive4 _).mono ?_; rintro e w1 ⟨rfl, hp1⟩)
    go_ret
    exact ⟨rfl, hp1⟩
  have q4 : decide (m < n) = false := by simp; omega
  by_cases g5 : 300 < m
  · skip
    go_enter Try.func21, Try.ntmps21
    go_wp2_with (go_at_call 54; refine (alive4 _).mono ?_; rintro e w1 ⟨rfl, hp1⟩)
    go_ret
    exact ⟨rfl, hp1⟩
  have q5 : decide (300 < m) = false := by simp; omega
  obtain ⟨N, rfl⟩ := Int.eq_ofNat_of_zero_le (by omega : 0 ≤ n)
  obtain ⟨M, rfl⟩ := Int.eq_ofNat_of_zero_le (by omega : 0 ≤ m)
  have hE1 := fun w => expand key info (N : Int) (by omega) (by omega) (by omega) (by omega) w
  have hE2 := fun w => expand key info (M : Int) (by omega) (by omega) (by omega) (by omega) w
  have hE3 := fun w => expand_no key info 8161 (.inr (by decide)) w
  have hE4 := fun w => expand_no key info (-1) (.inl (by decide)) w
  obtain ⟨a, ha⟩ : ∃ a, a = expandL key info N := ⟨_, rfl⟩
  obtain ⟨b, hb⟩ : ∃ a, a = expandL key info M := ⟨_, rfl⟩
  have hal : a.length = N := by rw [ha]; exact expandL_length _ _ _
  have hbl : b.length = M := by rw [hb]; exact expandL_length _ _ _
  have hbt : b.take N = a := by rw [ha, hb]; exact expandL_prefix _ _ _ _ (by omega)
  rw [show ((N : Int)).toNat = N from rfl, ← ha] at hE1
  rw [show ((M : Int)).toNat = M from rfl, ← hb] at hE2
  have hNM : (N : Int) ≤ M := by omega
  have HE1 := Lib.hid hE1
  have HE2 := Lib.hid hE2
  have HE3 := Lib.hid hE3
  have HE4 := Lib.hid hE4
  clear hE1 hE2 hE3 hE4 ha hb
  go_enter Try.func21, Try.ntmps21
  go_wp2_with (first
    | (go_at_call 54; refine (alive4 _).mono ?_; rintro e w1 ⟨rfl, hp1⟩)
    | (go_at_call 55; first
       | (refine (HE1.out _).mono ?_; rintro e w2 ⟨rfl, hp2⟩; clear HE1)
       | (refine (HE2.out _).mono ?_; rintro e w3 ⟨rfl, hp3⟩; clear HE2)
       | (refine (HE3.out _).mono ?_; rintro e w4 ⟨rfl, hp4⟩; clear HE3)
       | (refine (HE4.out _).mono ?_; rintro e w5 ⟨rfl, hp5⟩)))
  go_ret
  exact ⟨by simp, (((hp1.trans hp2).trans hp3).trans hp4).trans hp5⟩
set_option maxRecDepth 100000 in
set_option maxHeartbeats 3200000 in
theorem deriveBlocks_walk (s : ByteArray) (_ : s.size ≤ maxLen) (s1 : ByteArray) (_ : s1.size ≤ maxLen) (w : World) :
    Calls Try.prog 23 #[.string s, .string s1] w fun e w' => e = .returned (.bool true) ∧ Pu w w' := by
  obtain ⟨key, rfl⟩ : ∃ b, s = bs b := ⟨_, bs_eta s⟩
  obtain ⟨info, rfl⟩ : ∃ b, s1 = bs b := ⟨_, bs_eta s1⟩
  by_cases g1 : 100 < key.length
  · have q1 : (100 : Int) < key.length := by omega
    go_enter Try.func23, Try.ntmps23
    go_wp2_with (go_at_call 54; refine (alive4 _).mono ?_; rintro e w1 ⟨rfl, hp1⟩)
    go_ret
    exact ⟨rfl, hp1⟩
  have q1 : decide ((100 : Int) < key.length) = false := by simp; omega
  by_cases g2 : 100 < info.length
  · have q2 : (100 : Int) < info.length := by omega
    go_enter Try.func23, Try.ntmps23
    go_wp2_with (go_at_call 54; refine (alive4 _).mono ?_; rintro e w1 ⟨rfl, hp1⟩)
    go_ret
    exact ⟨rfl, hp1⟩
  have q2 : decide ((100 : Int) < info.length) = false := by simp; omega
  obtain ⟨a, ha⟩ : ∃ a, a = macL key (info ++ [1]) := ⟨_, rfl⟩
  obtain ⟨b, hb⟩ : ∃ b, b = macL key (a ++ (info ++ [2])) := ⟨_, rfl⟩
  obtain ⟨c, hc⟩ : ∃ c, c = macL key (b ++ (info ++ [3])) := ⟨_, rfl⟩
  have hal : a.length = 32 := by rw [ha]; exact macL_length _ _
  have hbl : b.length = 32 := by rw [hb]; exact macL_length _ _
  have hcl : c.length = 32 := by rw [hc]; exact macL_length _ _
  have hM1 := fun w => refMac key (info ++ [1]) (by omega) (by simp; omega) w
  have hM2 := fun w => refMac key (a ++ (info ++ [2])) (by omega) (by simp; omega) w
  have hM3 := fun w => refMac key (b ++ (info ++ [3])) (by omega) (by simp; omega) w
  rw [← ha] at hM1
  rw [← hb] at hM2
  rw [← hc] at hM3
  obtain ⟨r, hr⟩ : ∃ r, r = expandL key info 96 := ⟨_, rfl⟩
  have hrl : r.length = 96 := by rw [hr]; exact expandL_length _ _ _
  have l1 : lastE key info 1 = a := by rw [ha]; rfl
  have l2 : lastE key info 2 = b := by
    show macL key (lastE key info 1 ++ info ++ [2]) = b
    rw [l1, hb, List.append_assoc]
  have l3 : lastE key info 3 = c := by
    show macL key (lastE key info 2 ++ info ++ [3]) = c
    rw [l2, hc, List.append_assoc]
  have hrr : a ++ (b ++ c) = r := by
    rw [hr, expandL]
    show _ = (((([] : Bs) ++ lastE key info 1) ++ lastE key info 2) ++ lastE key info 3).take 96
    rw [l1, l2, l3, List.nil_append, List.append_assoc, List.take_of_length_le (by simp; omega)]
  have hE := fun w => expand key info 96 (by omega) (by omega) (by decide) (by decide) w
  rw [show (96 : Int).toNat = 96 from rfl, ← hr] at hE
  have k1 : (ByteArray.mk #[1]) = bs [1] := rfl
  have k2 : (ByteArray.mk #[2]) = bs [2] := rfl
  have k3 : (ByteArray.mk #[3]) = bs [3] := rfl
  have z1 : ¬ (9223372036854775807 < info.length + 1) := by omega
  have z2 : ¬ (9223372036854775807 < 32 + info.length) := by omega
  have z3 : ¬ (9223372036854775807 < 32 + info.length + 1) := by omega
  have z4 : ¬ (9223372036854775807 < 32 + (info.length + 1)) := by omega
  have HM1 := Lib.hid hM1
  have HM2 := Lib.hid hM2
  have HM3 := Lib.hid hM3
  have HE := Lib.hid hE
  clear hM1 hM2 hM3 hE ha hb hc hr l1 l2 l3
  go_enter Try.func23, Try.ntmps23
  go_wp2_with (first
    | (go_at_call 54; refine (alive4 _).mono ?_; rintro e w1 ⟨rfl, hp1⟩)
    | (go_at_call 55; refine (HE.out _).mono ?_; rintro e w2 ⟨rfl, hp2⟩)
    | (go_at_call 61; first
       | (refine (HM1.out _).mono ?_; rintro e w3 ⟨rfl, hp3⟩; clear HM1)
       | (refine (HM2.out _).mono ?_; rintro e w4 ⟨rfl, hp4⟩; clear HM2)
       | (refine (HM3.out _).mono ?_; rintro e w5 ⟨rfl, hp5⟩)))
  go_ret
  exact ⟨by simp, (((hp1.trans hp2).trans hp3).trans hp4).trans hp5⟩
set_option maxRecDepth 100000 in
set_option maxHeartbeats 3200000 in
theorem deriveInfos_walk (s : ByteArray) (_ : s.size ≤ maxLen) (s1 : ByteArray) (_ : s1.size ≤ maxLen) (s2 : ByteArray) (_ : s2.size ≤ maxLen) (s3 : ByteArray) (_ : s3.size ≤ maxLen) (w : World) :
    Calls Try.prog 24 #[.string s, .string s1, .string s2, .string s3] w fun e w' => e = .returned (.bool true) ∧ Pu w w' := by
  obtain ⟨secret, rfl⟩ : ∃ b, s = bs b := ⟨_, bs_eta s⟩
  obtain ⟨salt, rfl⟩ : ∃ b, s1 = bs b := ⟨_, bs_eta s1⟩
  obtain ⟨a, rfl⟩ : ∃ b, s2 = bs b := ⟨_, bs_eta s2⟩
  obtain ⟨b, rfl⟩ : ∃ b, s3 = bs b := ⟨_, bs_eta s3⟩
  by_cases g1 : 100 < secret.length
  · have q1 : (100 : Int) < secret.length := by omega
    go_enter Try.func24, Try.ntmps24
    go_wp2_with (go_at_call 54; refine (alive4 _).mono ?_; rintro e w1 ⟨rfl, hp1⟩)
    go_ret
    exact ⟨rfl, hp1⟩
  have q1 : decide ((100 : Int) < secret.length) = false := by simp; omega
  by_cases g2 : 100 < salt.length
  · have q2 : (100 : Int) < salt.length := by omega
    go_enter Try.func24, Try.ntmps24
    go_wp2_with (go_at_call 54; refine (alive4 _).mono ?_; rintro e w1 ⟨rfl, hp1⟩)
    go_ret
    exact ⟨rfl, hp1⟩
  have q2 : decide ((100 : Int) < salt.length) = false := by simp; omega
  by_cases g3 : 60 < a.length
  · have q3 : (60 : Int) < a.length := by omega
    go_enter Try.func24, Try.ntmps24
    go_wp2_with (go_at_call 54; refine (alive4 _).mono ?_; rintro e w1 ⟨rfl, hp1⟩)
    go_ret
    exact ⟨rfl, hp1⟩
  have q3 : decide ((60 : Int) < a.length) = false := by simp; omega
  by_cases g4 : 60 < b.length
  · have q4 : (60 : Int) < b.length := by omega
    go_enter Try.func24, Try.ntmps24
    go_wp2_with (go_at_call 54; refine (alive4 _).mono ?_; rintro e w1 ⟨rfl, hp1⟩)
    go_ret
    exact ⟨rfl, hp1⟩
  have q4 : decide ((60 : Int) < b.length) = false := by simp; omega
  obtain ⟨k, hk⟩ : ∃ k, k = macL salt secret := ⟨_, rfl⟩
  have hkl : k.length = 32 := by rw [hk]; exact macL_length _ _
  have hX := fun w => extract salt secret (by omega) (by omega) w
  have hK1 := fun w => deriveKey secret salt a (by omega) (by omega) (by omega) w
  have hK2 := fun w => deriveKey secret salt b (by omega) (by omega) (by omega) w
  have hE1 := fun w => expand k a 32 (by omega) (by omega) (by decide) (by decide) w
  have hE2 := fun w => expand k b 32 (by omega) (by omega) (by decide) (by decide) w
  obtain ⟨x, hx⟩ : ∃ x, x = expandL k a 32 := ⟨_, rfl⟩
  obtain ⟨y, hy⟩ : ∃ x, x = expandL k b 32 := ⟨_, rfl⟩
  have hxl : x.length = 32 := by rw [hx]; exact expandL_length _ _ _
  have hyl : y.length = 32 := by rw [hy]; exact expandL_length _ _ _
  rw [← hk] at hX
  rw [show deriveL secret salt a = x by rw [deriveL, ← hk, hx]] at hK1
  rw [show deriveL secret salt b = y by rw [deriveL, ← hk, hy]] at hK2
  rw [show (32 : Int).toNat = 32 from rfl, ← hx] at hE1
  rw [show (32 : Int).toNat = 32 from rfl, ← hy] at hE2
  have HX := Lib.hid hX
  have HK1 := Lib.hid hK1
  have HK2 := Lib.hid hK2
  have HE1 := Lib.hid hE1
  have HE2 := Lib.hid hE2
  have hxy : a = b → x = y := by rintro rfl; rw [hx, hy]
  have HXY := Lib.hid hxy
  clear hX hK1 hK2 hE1 hE2 hk hx hy hxy
  by_cases hab : a = b
  · have hxy := HXY.out hab
    subst hab
    subst hxy
    go_enter Try.func24, Try.ntmps24
    go_wp2_with (first
      | (go_at_call 54; refine (alive4 _).mono ?_; rintro e w1 ⟨rfl, hp1⟩)
      | (go_at_call 59; first
         | (refine (HK1.out _).mono ?_; rintro e w2 ⟨rfl, hp2⟩; clear HK1)
         | (refine (HK2.out _).mono ?_; rintro e w3 ⟨rfl, hp3⟩))
      | (go_at_call 57; refine (HX.out _).mono ?_; rintro e w4 ⟨rfl, hp4⟩)
      | (go_at_call 55; first
         | (refine (HE1.out _).mono ?_; rintro e w5 ⟨rfl, hp5⟩; clear HE1)
         | (refine (HE2.out _).mono ?_; rintro e w6 ⟨rfl, hp6⟩)))
    go_ret
    exact ⟨by simp, ((((hp1.trans hp2).trans hp3).trans hp4).trans hp5).trans hp6⟩
  · have hab' : (a == b) = false := by simp [hab]
    go_enter Try.func24, Try.ntmps24
    go_wp2_with (first
      | (go_at_call 54; refine (alive4 _).mono ?_; rintro e w1 ⟨rfl, hp1⟩)
      | (go_at_call 59; first
         | (refine (HK1.out _).mono ?_; rintro e w2 ⟨rfl, hp2⟩; clear HK1)
         | (refine (HK2.out _).mono ?_; rintro e w3 ⟨rfl, hp3⟩))
      | (go_at_call 57; refine (HX.out _).mono ?_; rintro e w4 ⟨rfl, hp4⟩)
      | (go_at_call 55; first
         | (refine (HE1.out _).mono ?_; rintro e w5 ⟨rfl, hp5⟩; clear HE1)
         | (refine (HE2.out _).mono ?_; rintro e w6 ⟨rfl, hp6⟩)))
    go_ret
    exact ⟨by simp, ((((hp1.trans hp2).trans hp3).trans hp4).trans hp5).trans hp6⟩
end Go.Proofs.Ytdjbhbefghihcaa
