/- Chapter 4: the first call, DeriveTells. -/
import Derived.Test.YtdjbhbefghihcaaRefDerive
set_option linter.unusedSimpArgs false
set_option linter.unusedVariables false
namespace Go.Proofs.Ytdjbhbefghihcaa
open Go.RowKit Go.Esc
theorem outE_take (k i : Bs) (n : Nat) : (outE k i (n+1)).take 32 = macL k (i ++ [1]) := by
  induction n with
  | zero =>
    show (([] : Bs) ++ macL k ([] ++ i ++ [1])).take 32 = _
    rw [List.nil_append, List.nil_append, List.take_of_length_le (by rw [macL_length]; exact Nat.le_refl _)]
  | succ n ih => rw [outE, List.take_append_of_le_length (by rw [outE_length]; omega), ih]
theorem expandL_take (k i : Bs) (n : Nat) (h : 32 ≤ n) : (expandL k i n).take 32 = macL k (i ++ [1]) := by
  obtain ⟨m, hm⟩ : ∃ m, (n + 31) / 32 = m + 1 := ⟨(n + 31) / 32 - 1, by omega⟩
  rw [expandL, List.take_take, hm, show min 32 n = 32 by omega, outE_take]
set_option maxRecDepth 100000 in
set_option maxHeartbeats 3200000 in
theorem alive4 (w : World) : Calls Try.prog 54 #[] w fun e w' => e = .returned (.bool true) ∧ Pu w w' := by
  obtain ⟨s, hs⟩ : ∃ s, s = expandL [107] [105] 40 := ⟨_, rfl⟩
  have hsl : s.length = 40 := by rw [hs]; exact expandL_length _ _ _
  obtain ⟨m, hm⟩ : ∃ m, m = macL [107] [105, 1] := ⟨_, rfl⟩
  have hst : s.take 32 = m := by rw [hs, hm]; exact expandL_take _ _ _ (by decide)
  have hE1 := fun w => expand [107] [105] 40 (by decide) (by decide) (by decide) (by decide) w
  have hE2 := fun w => expand [107] [105] 0 (by decide) (by decide) (by decide) (by decide) w
  rw [show (40 : Int).toNat = 40 from rfl, ← hs] at hE1
  rw [show expandL [107] [105] (0 : Int).toNat = [] from rfl] at hE2
  have hM := fun w => refMac [107] [105, 1] (by decide) (by decide) w
  rw [← hm] at hM
  obtain ⟨k, hk⟩ : ∃ k, k = deriveL [97] [98] [99] := ⟨_, rfl⟩
  have hkl : k.length = 32 := by rw [hk]; exact expandL_length _ _ _
  have hK := fun w => deriveKey [97] [98] [99] (by decide) (by decide) (by decide) w
  rw [← hk] at hK
  have HE1 := Lib.hid hE1
  have HE2 := Lib.hid hE2
  have HM := Lib.hid hM
  have HK := Lib.hid hK
  have cM : ∀ args w, (callFunc 61 args).run Try.prog w = .ok (.enter 61 args) w := fun args w => run_callFunc_body Try.func61 (by kernel_rfl) (by kernel_rfl) args w
  have cK : ∀ args w, (callFunc 59 args).run Try.prog w = .ok (.enter 59 args) w := fun args w => run_callFunc_body Try.func59 (by kernel_rfl) (by kernel_rfl) args w
  have k107 : (ByteArray.mk #[107]) = bs [107] := rfl
  have k105 : (ByteArray.mk #[105, 1]) = bs [105, 1] := rfl
  have k97 : (ByteArray.mk #[97]) = bs [97] := rfl
  have k98 : (ByteArray.mk #[98]) = bs [98] := rfl
  have k99 : (ByteArray.mk #[99]) = bs [99] := rfl
  clear hE1 hE2 hM hK hk hs hm
  go_enter Try.func54, Try.ntmps54
  go_wp2_with (go_at_call 55; first
    | (refine (HE1.out _).mono ?_; rintro e w1 ⟨rfl, hp1⟩; clear HE1)
    | (refine (HE2.out _).mono ?_; rintro e w2 ⟨rfl, hp2⟩))
  apply region_pu (Φs := (Is _ :: Is _ :: Is _ :: Is _ :: Is _ :: Is _ :: Is _ :: Is _ :: Is _ :: Is _ :: Is _ :: Is _ :: Is _ :: Is _ :: Is _ :: Is _ :: Is _ :: Is _ :: Is _ :: Is _ :: Is _ :: Is _ :: Is _ :: Is _ :: Is _ :: [])) (hm := by kernel_rfl) (hE := by kernel_rfl) (hD := by kernel_rfl) (hsize := by kernel_rfl)
  case hop =>
    refine ⟨?_, ?_, ?_, ?_, ?_, ?_, ?_, ?_, ?_, ?_, ?_, ?_, ?_, ?_, ?_, ?_, ?_, ?_, ?_, ?_, ?_, ?_, ?_, ?_, ?_, trivial⟩
    · intro a' w' hs hp he
      have e2 := hs 2 (by kernel_rfl)
      try simp [Is, Region.binds] at he
      exact op_val rfl (wanted_none rfl) (by first | (go_simp; done) | (go_simp; rfl) | (simp [execOp, Act.eval, go_sem, *]; done) | (simp [execOp, Act.eval, go_sem, *]; rfl)) rfl (Pu.refl _)
    · intro a' w' hs hp he
      try simp [Is, Region.binds] at he
      exact op_val rfl (wanted_none rfl) (by first | (go_simp; done) | (go_simp; rfl) | (simp [execOp, Act.eval, go_sem, *]; done) | (simp [execOp, Act.eval, go_sem, *]; rfl)) rfl (Pu.refl _)
    · intro a' w' hs hp he
      have e1 := hs 1 (by kernel_rfl)
      try simp [Is, Region.binds] at he
      first | exact op_skip rfl ((wanted_some rfl rfl (by first | (simp [he]; done) | (simp [he]; rfl))).trans rfl) rfl | exact op_val rfl ((wanted_some rfl rfl (by first | (simp [he]; done) | (simp [he]; rfl))).trans rfl) (by first | (go_simp; done) | (go_simp; rfl) | (simp [execOp, Act.eval, go_sem, *]; done) | (simp [execOp, Act.eval, go_sem, *]; rfl)) rfl (Pu.refl _)
    · intro a' w' hs hp he
      try simp [Is, Region.binds] at he
      first | exact op_skip rfl ((wanted_some rfl rfl (by first | (simp [he]; done) | (simp [he]; rfl))).trans rfl) rfl | exact op_val rfl ((wanted_some rfl rfl (by first | (simp [he]; done) | (simp [he]; rfl))).trans rfl) (by first | (go_simp; done) | (go_simp; rfl) | (simp [execOp, Act.eval, go_sem, *]; done) | (simp [execOp, Act.eval, go_sem, *]; rfl)) rfl (Pu.refl _)
    · intro a' w' hs hp he
      try simp [Is, Region.binds] at he
      first | exact op_skip rfl ((wanted_some rfl rfl (by first | (simp [he]; done) | (simp [he]; rfl))).trans rfl) rfl | exact op_val rfl ((wanted_some rfl rfl (by first | (simp [he]; done) | (simp [he]; rfl))).trans rfl) (by first | (go_simp; done) | (go_simp; rfl) | (simp [execOp, Act.eval, go_sem, *]; done) | (simp [execOp, Act.eval, go_sem, *]; rfl)) rfl (Pu.refl _)
    · intro a' w' hs hp he
      try simp [Is, Region.binds] at he
      exact op_val rfl (wanted_none rfl) (by first | (go_simp; done) | (go_simp; rfl) | (simp [execOp, Act.eval, go_sem, *]; done) | (simp [execOp, Act.eval, go_sem, *]; rfl)) rfl (Pu.refl _)
    · intro a' w' hs hp he
      try simp [Is, Region.binds] at he
      exact op_val rfl (wanted_none rfl) (by first | (go_simp; done) | (go_simp; rfl) | (simp [execOp, Act.eval, go_sem, *]; done) | (simp [execOp, Act.eval, go_sem, *]; rfl)) rfl (Pu.refl _)
    · intro a' w' hs hp he
      have e4 := hs 4 (by kernel_rfl)
      try simp [Is, Region.binds] at he
      first | exact op_skip rfl ((wanted_some rfl rfl (by first | (simp [he]; done) | (simp [he]; rfl))).trans rfl) rfl | exact op_val rfl ((wanted_some rfl rfl (by first | (simp [he]; done) | (simp [he]; rfl))).trans rfl) (by first | (go_simp; done) | (go_simp; rfl) | (simp [execOp, Act.eval, go_sem, *]; done) | (simp [execOp, Act.eval, go_sem, *]; rfl)) rfl (Pu.refl _)
    · intro a' w' hs hp he
      try simp [Is, Region.binds] at he
      exact op_val rfl (wanted_none rfl) (by first | (go_simp; done) | (go_simp; rfl) | (simp [execOp, Act.eval, go_sem, *]; done) | (simp [execOp, Act.eval, go_sem, *]; rfl)) rfl (Pu.refl _)
    · intro a' w' hs hp he
      try simp [Is, Region.binds] at he
      exact op_val rfl (wanted_none rfl) (by first | (go_simp; done) | (go_simp; rfl) | (simp [execOp, Act.eval, go_sem, *]; done) | (simp [execOp, Act.eval, go_sem, *]; rfl)) rfl (Pu.refl _)
    · intro a' w' hs hp he
      have e3 := hs 3 (by kernel_rfl)
      try simp [Is, Region.binds] at he
      first | exact op_skip rfl ((wanted_some rfl rfl (by first | (simp [he]; done) | (simp [he]; rfl))).trans rfl) rfl | exact op_val rfl ((wanted_some rfl rfl (by first | (simp [he]; done) | (simp [he]; rfl))).trans rfl) (by first | (go_simp; done) | (go_simp; rfl) | (simp [execOp, Act.eval, go_sem, *]; done) | (simp [execOp, Act.eval, go_sem, *]; rfl)) rfl (Pu.refl _)
    · intro a' w' hs hp he
      try simp [Is, Region.binds] at he
      first | exact op_skip rfl ((wanted_some rfl rfl (by first | (simp [he]; done) | (simp [he]; rfl))).trans rfl) rfl | exact op_val rfl ((wanted_some rfl rfl (by first | (simp [he]; done) | (simp [he]; rfl))).trans rfl) (by first | (go_simp; done) | (go_simp; rfl) | (simp [execOp, Act.eval, go_sem, *]; done) | (simp [execOp, Act.eval, go_sem, *]; rfl)) rfl (Pu.refl _)
    · intro a' w' hs hp he
      try simp [Is, Region.binds] at he
      exact op_val rfl (wanted_none rfl) (by first | (go_simp; done) | (go_simp; rfl) | (simp [execOp, Act.eval, go_sem, *]; done) | (simp [execOp, Act.eval, go_sem, *]; rfl)) rfl (Pu.refl _)
    · intro a' w' hs hp he
      try simp [Is, Region.binds] at he
      exact op_val rfl (wanted_none rfl) (by first | (go_simp; done) | (go_simp; rfl) | (simp [execOp, Act.eval, go_sem, *]; done) | (simp [execOp, Act.eval, go_sem, *]; rfl)) rfl (Pu.refl _)
    · intro a' w' hs hp he
      have e1 := hs 1 (by kernel_rfl)
      try simp [Is, Region.binds] at he
      first | exact op_skip rfl ((wanted_some rfl rfl (by first | (simp [he]; done) | (simp [he]; rfl))).trans rfl) rfl | exact op_val rfl ((wanted_some rfl rfl (by first | (simp [he]; done) | (simp [he]; rfl))).trans rfl) (by first | (go_simp; done) | (go_simp; rfl) | (simp [execOp, Act.eval, go_sem, *]; done) | (simp [execOp, Act.eval, go_sem, *]; rfl)) rfl (Pu.refl _)
    · intro a' w' hs hp he
      try simp [Is, Region.binds] at he
      first | exact op_skip rfl ((wanted_some rfl rfl (by first | (simp [he]; done) | (simp [he]; rfl))).trans rfl) rfl | exact op_val rfl ((wanted_some rfl rfl (by first | (simp [he]; done) | (simp [he]; rfl))).trans rfl) (by first | (go_simp; done) | (go_simp; rfl) | (simp [execOp, Act.eval, go_sem, *]; done) | (simp [execOp, Act.eval, go_sem, *]; rfl)) rfl (Pu.refl _)
    · intro a' w' hs hp he
      try simp [Is, Region.binds] at he
      exact op_callP (HM.out _) rfl ((wanted_some rfl rfl (by first | (simp [he]; done) | (simp [he]; rfl))).trans rfl) (by first | (go_simp; done) | (go_simp; rfl)) (fun _ => rfl)
    · intro a' w' hs hp he
      try simp [Is, Region.binds] at he
      first | exact op_skip rfl ((wanted_some rfl rfl (by first | (simp [he]; done) | (simp [he]; rfl))).trans rfl) rfl | exact op_val rfl ((wanted_some rfl rfl (by first | (simp [he]; done) | (simp [he]; rfl))).trans rfl) (by first | (go_simp; done) | (go_simp; rfl) | (simp [execOp, Act.eval, go_sem, *]; done) | (simp [execOp, Act.eval, go_sem, *]; rfl)) rfl (Pu.refl _)
    · intro a' w' hs hp he
      try simp [Is, Region.binds] at he
      exact op_val rfl (wanted_none rfl) (by first | (go_simp; done) | (go_simp; rfl) | (simp [execOp, Act.eval, go_sem, *]; done) | (simp [execOp, Act.eval, go_sem, *]; rfl)) rfl (Pu.refl _)
    · intro a' w' hs hp he
      try simp [Is, Region.binds] at he
      exact op_val rfl (wanted_none rfl) (by first | (go_simp; done) | (go_simp; rfl) | (simp [execOp, Act.eval, go_sem, *]; done) | (simp [execOp, Act.eval, go_sem, *]; rfl)) rfl (Pu.refl _)
    · intro a' w' hs hp he
      try simp [Is, Region.binds] at he
      exact op_callP (HK.out _) rfl ((wanted_some rfl rfl (by first | (simp [he]; done) | (simp [he]; rfl))).trans rfl) (by first | (go_simp; done) | (go_simp; rfl)) (fun _ => rfl)
    · intro a' w' hs hp he
      try simp [Is, Region.binds] at he
      first | exact op_skip rfl ((wanted_some rfl rfl (by first | (simp [he]; done) | (simp [he]; rfl))).trans rfl) rfl | exact op_val rfl ((wanted_some rfl rfl (by first | (simp [he]; done) | (simp [he]; rfl))).trans rfl) (by first | (go_simp; done) | (go_simp; rfl) | (simp [execOp, Act.eval, go_sem, *]; done) | (simp [execOp, Act.eval, go_sem, *]; rfl)) rfl (Pu.refl _)
    · intro a' w' hs hp he
      try simp [Is, Region.binds] at he
      first | exact op_skip rfl ((wanted_some rfl rfl (by first | (simp [he]; done) | (simp [he]; rfl))).trans rfl) rfl | exact op_val rfl ((wanted_some rfl rfl (by first | (simp [he]; done) | (simp [he]; rfl))).trans rfl) (by first | (go_simp; done) | (go_simp; rfl) | (simp [execOp, Act.eval, go_sem, *]; done) | (simp [execOp, Act.eval, go_sem, *]; rfl)) rfl (Pu.refl _)
    · intro a' w' hs hp he
      try simp [Is, Region.binds] at he
      exact op_val rfl (wanted_none rfl) (by first | (go_simp; done) | (go_simp; rfl) | (simp [execOp, Act.eval, go_sem, *]; done) | (simp [execOp, Act.eval, go_sem, *]; rfl)) rfl (Pu.refl _)
    · intro a' w' hs hp he
      try simp [Is, Region.binds] at he
      exact op_val rfl (wanted_none rfl) (by first | (go_simp; done) | (go_simp; rfl) | (simp [execOp, Act.eval, go_sem, *]; done) | (simp [execOp, Act.eval, go_sem, *]; rfl)) rfl (Pu.refl _)
  case hend =>
    intro a' w' hdef hsz hs hp hall
    obtain ⟨r0, r1, r2, r3, r4, r5, r6, r7, r8, r9, r10, r11, r12, r13, r14, r15, r16, r17, r18, r19, r20, r21, r22, r23, r24, -⟩ := hall
    have hA := agree_done (agree_step (agree_step (agree_step (agree_step (agree_step (agree_step (agree_step (agree_step (agree_step (agree_step (agree_step (agree_step (agree_step (agree_step (agree_step (agree_step (agree_step (agree_step (agree_step (agree_step (agree_step (agree_step (agree_step (agree_step (agree_step (agree_init [13, 14, 15, 16, 17, 18, 19, 20, 21, 22, 23, 24, 25, 26, 27, 28, 29, 30, 31, 32, 33, 34, 35, 36, 0] hsz hs (by kernel_rfl)) r0) r1) r2) r3) r4) r5) r6) r7) r8) r9) r10) r11) r12) r13) r14) r15) r16) r17) r18) r19) r20) r21) r22) r23) r24)
    have ha := act_of hA hdef
    rw [ha]
    clear ha hA hs hsz hdef r0 r1 r2 r3 r4 r5 r6 r7 r8 r9 r10 r11 r12 r13 r14 r15 r16 r17 r18 r19 r20 r21 r22 r23 r24 
    simp only [List.setIfInBounds_toArray]
    dsimp only [List.set_cons_zero, List.set_cons_succ]
    (try simp only [Exit.then])
    go_wp2_with fail
    go_ret
    exact ⟨rfl, (hp1.trans hp2).trans hp⟩
set_option maxRecDepth 100000 in
set_option maxHeartbeats 3200000 in
theorem deriveTells_walk (s : ByteArray) (_ : s.size ≤ maxLen) (s1 : ByteArray) (_ : s1.size ≤ maxLen) (s2 : ByteArray) (_ : s2.size ≤ maxLen) (n : Int) (_ : (Lit.int .i64 n).wf = true) (w : World) :
    Calls Try.prog 20 #[.string s, .string s1, .string s2, .int .i64 n] w fun e w' => e = .returned (.bool true) ∧ Pu w w' := by
  obtain ⟨salt, rfl⟩ : ∃ b, s = bs b := ⟨_, bs_eta s⟩
  obtain ⟨secret, rfl⟩ : ∃ b, s1 = bs b := ⟨_, bs_eta s1⟩
  obtain ⟨info, rfl⟩ : ∃ b, s2 = bs b := ⟨_, bs_eta s2⟩
  by_cases g1 : 200 < salt.length
  · have q1 : (200 : Int) < salt.length := by omega
    go_enter Try.func20, Try.ntmps20
    go_wp2_with (go_at_call 54; refine (alive4 _).mono ?_; rintro e w1 ⟨rfl, hp1⟩)
    go_ret
    exact ⟨rfl, hp1⟩
  have q1 : decide ((200 : Int) < salt.length) = false := by simp; omega
  by_cases g2 : 200 < secret.length
  · have q2 : (200 : Int) < secret.length := by omega
    go_enter Try.func20, Try.ntmps20
    go_wp2_with (go_at_call 54; refine (alive4 _).mono ?_; rintro e w1 ⟨rfl, hp1⟩)
    go_ret
    exact ⟨rfl, hp1⟩
  have q2 : decide ((200 : Int) < secret.length) = false := by simp; omega
  by_cases g3 : 200 < info.length
  · have q3 : (200 : Int) < info.length := by omega
    go_enter Try.func20, Try.ntmps20
    go_wp2_with (go_at_call 54; refine (alive4 _).mono ?_; rintro e w1 ⟨rfl, hp1⟩)
    go_ret
    exact ⟨rfl, hp1⟩
  have q3 : decide ((200 : Int) < info.length) = false := by simp; omega
  by_cases g4 : 600 < n ∧ n ≤ 8160
  · have q4 : (600 : Int) < n := g4.1
    have q5 : n ≤ 8160 := g4.2
    go_enter Try.func20, Try.ntmps20
    go_wp2_with (go_at_call 54; refine (alive4 _).mono ?_; rintro e w1 ⟨rfl, hp1⟩)
    go_ret
    exact ⟨rfl, hp1⟩
  have hX1 := fun w => extract salt secret (by omega) (by omega) w
  have hX2 := fun w => refExtract salt secret (by omega) (by omega) w
  have hK1 := fun w => deriveKey secret salt info (by omega) (by omega) (by omega) w
  have hK2 := fun w => refKey secret salt info (by omega) (by omega) (by omega) w
  obtain ⟨x, hx⟩ : ∃ x, x = macL salt secret := ⟨_, rfl⟩
  obtain ⟨k, hk⟩ : ∃ k, k = deriveL secret salt info := ⟨_, rfl⟩
  rw [← hx] at hX1 hX2
  rw [← hk] at hK1 hK2
  have HX1 := Lib.hid hX1
  have HX2 := Lib.hid hX2
  have HK1 := Lib.hid hK1
  have HK2 := Lib.hid hK2
  clear hX1 hX2 hK1 hK2 hx hk
  rcases (by omega : n < 0 ∨ 8160 < n ∨ (0 ≤ n ∧ n ≤ 600)) with h1 | h1 | ⟨h1, h2⟩
  · have hE1 := fun w => expand_no secret info n (.inl h1) w
    have hE2 := fun w => refExpand_no secret info n (.inl h1) w
    have HE1 := Lib.hid hE1
    have HE2 := Lib.hid hE2
    have q4 : decide (600 < n) = false := by simp; omega
    clear hE1 hE2
    go_enter Try.func20, Try.ntmps20
    go_wp2_with (first
      | (go_at_call 54; refine (alive4 _).mono ?_; rintro e w1 ⟨rfl, hp1⟩)
      | (go_at_call 55; refine (HE1.out _).mono ?_; rintro e w2 ⟨rfl, hp2⟩)
      | (go_at_call 56; refine (HE2.out _).mono ?_; rintro e w3 ⟨rfl, hp3⟩)
      | (go_at_call 57; refine (HX1.out _).mono ?_; rintro e w4 ⟨rfl, hp4⟩)
      | (go_at_call 58; refine (HX2.out _).mono ?_; rintro e w5 ⟨rfl, hp5⟩)
      | (go_at_call 59; refine (HK1.out _).mono ?_; rintro e w6 ⟨rfl, hp6⟩)
      | (go_at_call 60; refine (HK2.out _).mono ?_; rintro e w7 ⟨rfl, hp7⟩))
    go_ret
    exact ⟨by simp, (((((hp1.trans hp2).trans hp3).trans hp4).trans hp5).trans hp6).trans hp7⟩
  · have hE1 := fun w => expand_no secret info n (.inr h1) w
    have hE2 := fun w => refExpand_no secret info n (.inr h1) w
    have HE1 := Lib.hid hE1
    have HE2 := Lib.hid hE2
    have q4 : (600 : Int) < n := by omega
    have q5 : decide (n ≤ 8160) = false := by simp; omega
    clear hE1 hE2
    go_enter Try.func20, Try.ntmps20
    go_wp2_with (first
      | (go_at_call 54; refine (alive4 _).mono ?_; rintro e w1 ⟨rfl, hp1⟩)
      | (go_at_call 55; refine (HE1.out _).mono ?_; rintro e w2 ⟨rfl, hp2⟩)
      | (go_at_call 56; refine (HE2.out _).mono ?_; rintro e w3 ⟨rfl, hp3⟩)
      | (go_at_call 57; refine (HX1.out _).mono ?_; rintro e w4 ⟨rfl, hp4⟩)
      | (go_at_call 58; refine (HX2.out _).mono ?_; rintro e w5 ⟨rfl, hp5⟩)
      | (go_at_call 59; refine (HK1.out _).mono ?_; rintro e w6 ⟨rfl, hp6⟩)
      | (go_at_call 60; refine (HK2.out _).mono ?_; rintro e w7 ⟨rfl, hp7⟩))
    go_ret
    exact ⟨by simp, (((((hp1.trans hp2).trans hp3).trans hp4).trans hp5).trans hp6).trans hp7⟩
  · have hE1 := fun w => expand secret info n (by omega) (by omega) h1 (by omega) w
    have hE2 := fun w => refExpand secret info n (by omega) (by omega) h1 (by omega) w
    obtain ⟨o, ho⟩ : ∃ o, o = expandL secret info n.toNat := ⟨_, rfl⟩
    rw [← ho] at hE1 hE2
    have HE1 := Lib.hid hE1
    have HE2 := Lib.hid hE2
    have q4 : decide (600 < n) = false := by simp; omega
    clear hE1 hE2 ho
    go_enter Try.func20, Try.ntmps20
    go_wp2_with (first
      | (go_at_call 54; refine (alive4 _).mono ?_; rintro e w1 ⟨rfl, hp1⟩)
      | (go_at_call 55; refine (HE1.out _).mono ?_; rintro e w2 ⟨rfl, hp2⟩)
      | (go_at_call 56; refine (HE2.out _).mono ?_; rintro e w3 ⟨rfl, hp3⟩)
      | (go_at_call 57; refine (HX1.out _).mono ?_; rintro e w4 ⟨rfl, hp4⟩)
      | (go_at_call 58; refine (HX2.out _).mono ?_; rintro e w5 ⟨rfl, hp5⟩)
      | (go_at_call 59; refine (HK1.out _).mono ?_; rintro e w6 ⟨rfl, hp6⟩)
      | (go_at_call 60; refine (HK2.out _).mono ?_; rintro e w7 ⟨rfl, hp7⟩))
    go_ret
    exact ⟨by simp, (((((hp1.trans hp2).trans hp3).trans hp4).trans hp5).trans hp6).trans hp7⟩
end Go.Proofs.Ytdjbhbefghihcaa
