/- Chapter 3: MacKeys. -/
import Derived.Test.YtdjbhbefghihcaaLaw3
import Derived.Test.YtdjbhbefghihcaaRefSum
import Derived.Deep.OwnRows
set_option linter.unusedSimpArgs false
set_option linter.unusedVariables false
namespace Go.Proofs.Ytdjbhbefghihcaa
open Go.RowKit Go.Esc
theorem macL_sum (key b : Bs) (h : 64 < key.length) : macL (sha key) b = macL key b := by
  have h2 : ¬ (64 < (sha key).length) := by rw [sha_len]; omega
  simp only [macL, keyL, if_pos h, if_neg h2]
theorem macL_zeros (key b : Bs) (n : Nat) (h : key.length + n ≤ 64) : macL (key ++ List.replicate n 0) b = macL key b := by
  have h1 : ¬ (64 < key.length) := by omega
  have h2 : ¬ (64 < (key ++ List.replicate n (0 : UInt8)).length) := by simp; omega
  have e : keyL (key ++ List.replicate n 0) = keyL key := by
    simp only [keyL, if_neg h1, if_neg h2]
    rw [List.append_assoc, List.replicate_append_replicate]
    congr 2
    simp; omega
  simp only [macL, e]
set_option maxRecDepth 100000 in
set_option maxHeartbeats 3200000 in
theorem macKeys_walk (s : ByteArray) (_ : s.size ≤ maxLen) (s' : ByteArray) (_ : s'.size ≤ maxLen) (n : Int) (_ : (Lit.int .i64 n).wf = true) (w : World) :
    Calls Try.prog 25 #[.string s, .string s', .int .i64 n] w fun e w' => e = .returned (.bool true) ∧ Pu w w' := by
  obtain ⟨key, rfl⟩ : ∃ b, s = bs b := ⟨_, bs_eta s⟩
  obtain ⟨b, rfl⟩ : ∃ b, s' = bs b := ⟨_, bs_eta s'⟩
  by_cases g1 : 200 < key.length
  · have q1 : (200 : Int) < key.length := by omega
    go_enter Try.func25, Try.ntmps25
    go_wp2_with (go_at_call 62; refine (alive3 _).mono ?_; rintro e w1 ⟨rfl, hp1⟩)
    go_ret
    exact ⟨rfl, hp1⟩
  have q1 : decide ((200 : Int) < key.length) = false := by simp; omega
  by_cases g2 : 200 < b.length
  · have q2 : (200 : Int) < b.length := by omega
    go_enter Try.func25, Try.ntmps25
    go_wp2_with (go_at_call 62; refine (alive3 _).mono ?_; rintro e w1 ⟨rfl, hp1⟩)
    go_ret
    exact ⟨rfl, hp1⟩
  have q2 : decide ((200 : Int) < b.length) = false := by simp; omega
  by_cases g3 : n < 0
  · skip
    go_enter Try.func25, Try.ntmps25
    go_wp2_with (go_at_call 62; refine (alive3 _).mono ?_; rintro e w1 ⟨rfl, hp1⟩)
    go_ret
    exact ⟨rfl, hp1⟩
  have q3 : decide (n < 0) = false := by simp; omega
  by_cases g4 : 64 < n
  · skip
    go_enter Try.func25, Try.ntmps25
    go_wp2_with (go_at_call 62; refine (alive3 _).mono ?_; rintro e w1 ⟨rfl, hp1⟩)
    go_ret
    exact ⟨rfl, hp1⟩
  have q4 : decide (64 < n) = false := by simp; omega
  obtain ⟨m, hm⟩ : ∃ m, m = macL key b := ⟨_, rfl⟩
  have hM := fun w => macOf key b (by omega) (by omega) w
  rw [← hm] at hM
  by_cases g5 : 64 < key.length
  · have q5 : (64 : Int) < key.length := by omega
    obtain ⟨sk, hsk⟩ : ∃ m, m = sha key := ⟨_, rfl⟩
    have hskl : sk.length = 32 := by rw [hsk]; exact sha_len _
    have hR := fun w => refSum key (by omega) w
    have hM2 := fun w => macOf sk b (by omega) (by omega) w
    rw [← hsk] at hR
    rw [show macL sk b = m by rw [hsk, macL_sum key b g5, hm]] at hM2
    have HM := Lib.hid hM
    have HR := Lib.hid hR
    have HM2 := Lib.hid hM2
    clear hM hR hM2 hm hsk
    go_enter Try.func25, Try.ntmps25
    go_wp2_with (first
      | (go_at_call 62; refine (alive3 _).mono ?_; rintro e w1 ⟨rfl, hp1⟩)
      | (go_at_call 42; refine (HR.out _).mono ?_; rintro e w2 ⟨rfl, hp2⟩)
      | (go_at_call 63; first
         | (refine (HM.out _).mono ?_; rintro e w3 ⟨rfl, hp3⟩; clear HM)
         | (refine (HM2.out _).mono ?_; rintro e w4 ⟨rfl, hp4⟩)))
    go_ret
    exact ⟨rfl, ((hp1.trans hp3).trans hp2).trans hp4⟩
  have q5 : decide ((64 : Int) < key.length) = false := by simp; omega
  obtain ⟨N, rfl⟩ := Int.eq_ofNat_of_zero_le (by omega : 0 ≤ n)
  have HM := Lib.hid hM
  by_cases g6 : 64 < key.length + N
  · have q6 : (64 : Int) < (key.length : Int) + N := by omega
    clear hM hm
    go_enter Try.func25, Try.ntmps25
    go_wp2_with (go_at_call 62; refine (alive3 _).mono ?_; rintro e w1 ⟨rfl, hp1⟩)
    go_ret
    exact ⟨rfl, hp1⟩
  have q6 : decide ((64 : Int) < (key.length : Int) + N) = false := by simp; omega
  have hmk : ∀ w, (Instr.makeSlice 27 (.int .i64 (N : Int)) (.int .i64 (N : Int))).run Try.prog w = .ok (.slice (some ⟨w.heap.size, 0, none⟩) N N) (w.alloc (.cells (madeCells #[.int .u8 0] N) 5)) := run_make_row' (P := Try.prog) 27 5 (.int .u8 0) 1 Try.underlying27 infoB rfl .i64 .i64 N (by omega) (by omega)
  obtain ⟨zz, hzz⟩ : ∃ z, z = List.replicate N (0 : UInt8) := ⟨_, rfl⟩
  have hzl : zz.length = N := by rw [hzz]; simp
  have hM2 := fun w => macOf (key ++ zz) b (by simp; omega) (by omega) w
  rw [show macL (key ++ zz) b = m by rw [hzz, macL_zeros key b N (by omega), hm]] at hM2
  have HM2 := Lib.hid hM2
  have HZZ := Lib.hid hzz
  have hz6 : ¬ (9223372036854775807 < key.length + N) := by omega
  have cM : ∀ args w, (callFunc 63 args).run Try.prog w = .ok (.enter 63 args) w := fun args w => run_callFunc_body Try.func63 (by kernel_rfl) (by kernel_rfl) args w
  clear hM hM2 hm hzz
  go_enter Try.func25, Try.ntmps25
  go_wp2_with (go_at_call 62; refine (alive3 _).mono ?_; rintro e w1 ⟨rfl, hp1⟩)
  apply region_pu (Φs := (Is _ :: Is _ :: Is _ :: Is _ :: Is _ :: IsRow 5 N (cells zz) :: Is _ :: Is _ :: Is _ :: Is _ :: Is _ :: Is _ :: [])) (hm := by kernel_rfl) (hE := by kernel_rfl) (hD := by kernel_rfl) (hsize := by kernel_rfl)
  case hop =>
    refine ⟨?_, ?_, ?_, ?_, ?_, ?_, ?_, ?_, ?_, ?_, ?_, ?_, trivial⟩
    · intro a' w' hs hp he
      have e0 := hs 0 (by kernel_rfl)
      try simp [Is, Region.binds] at he
      exact op_val rfl (wanted_none rfl) (by first | (go_simp; done) | (go_simp; rfl) | (simp [execOp, Act.eval, go_sem, *]; done) | (simp [execOp, Act.eval, go_sem, *]; rfl)) rfl (Pu.refl _)
    · intro a' w' hs hp he
      have e1 := hs 1 (by kernel_rfl)
      try simp [Is, Region.binds] at he
      exact op_val rfl (wanted_none rfl) (by first | (go_simp; done) | (go_simp; rfl) | (simp [execOp, Act.eval, go_sem, *]; done) | (simp [execOp, Act.eval, go_sem, *]; rfl)) rfl (Pu.refl _)
    · intro a' w' hs hp he
      try simp [Is, Region.binds] at he
      exact op_callP (HM.out _) rfl (wanted_none rfl) (by first | (go_simp; done) | (go_simp; rfl)) (fun _ => rfl)
    · intro a' w' hs hp he
      have e0 := hs 0 (by kernel_rfl)
      try simp [Is, Region.binds] at he
      exact op_val rfl (wanted_none rfl) (by first | (go_simp; done) | (go_simp; rfl) | (simp [execOp, Act.eval, go_sem, *]; done) | (simp [execOp, Act.eval, go_sem, *]; rfl)) rfl (Pu.refl _)
    · intro a' w' hs hp he
      have e2 := hs 2 (by kernel_rfl)
      try simp [Is, Region.binds] at he
      exact op_val rfl (wanted_none rfl) (by first | (go_simp; done) | (go_simp; rfl) | (simp [execOp, Act.eval, go_sem, *]; done) | (simp [execOp, Act.eval, go_sem, *]; rfl)) rfl (Pu.refl _)
    · intro a' w' hs hp he
      try simp [Is, Region.binds] at he
      refine op_val rfl (wanted_none rfl) (by go_simp; exact ⟨rfl, rfl⟩) ?_ ((Pu.refl _).alloc _); exact ⟨_, _, rfl, Row.newAt _ _ _ _ rfl (by rw [HZZ.out]; have := madeZ N; rw [Nat.mul_one] at this; exact this)⟩
    · intro a' w' hs hp he
      try simp [Is, Region.binds] at he
      obtain ⟨g, cap, hv, hrow⟩ := he; have hcv := Row.conv (P := Try.prog) (cap := cap) (n := N) (l := zz) 27 9 hrow hzl.symm Try.underlying27 Try.underlying5 Try.underlying9; exact op_val rfl (wanted_none rfl) (by first | (go_simp; done) | (go_simp; rfl)) rfl (Pu.refl _)
    · intro a' w' hs hp he
      try simp [Is, Region.binds] at he
      exact op_val rfl (wanted_none rfl) (by first | (go_simp; done) | (go_simp; rfl) | (simp [execOp, Act.eval, go_sem, *]; done) | (simp [execOp, Act.eval, go_sem, *]; rfl)) rfl (Pu.refl _)
    · intro a' w' hs hp he
      have e1 := hs 1 (by kernel_rfl)
      try simp [Is, Region.binds] at he
      exact op_val rfl (wanted_none rfl) (by first | (go_simp; done) | (go_simp; rfl) | (simp [execOp, Act.eval, go_sem, *]; done) | (simp [execOp, Act.eval, go_sem, *]; rfl)) rfl (Pu.refl _)
    · intro a' w' hs hp he
      try simp [Is, Region.binds] at he
      exact op_callP (HM2.out _) rfl (wanted_none rfl) (by first | (go_simp; done) | (go_simp; rfl)) (fun _ => rfl)
    · intro a' w' hs hp he
      try simp [Is, Region.binds] at he
      exact op_val rfl (wanted_none rfl) (by first | (go_simp; done) | (go_simp; rfl) | (simp [execOp, Act.eval, go_sem, *]; done) | (simp [execOp, Act.eval, go_sem, *]; rfl)) rfl (Pu.refl _)
    · intro a' w' hs hp he
      try simp [Is, Region.binds] at he
      exact op_val rfl (wanted_none rfl) (by first | (go_simp; done) | (go_simp; rfl) | (simp [execOp, Act.eval, go_sem, *]; done) | (simp [execOp, Act.eval, go_sem, *]; rfl)) rfl (Pu.refl _)
  case hend =>
    intro a' w' hdef hsz hs hp hall
    obtain ⟨r0, r1, r2, r3, r4, r5, r6, r7, r8, r9, r10, r11, -⟩ := hall
    obtain ⟨g5, cap5, rv5, row5⟩ := r5
    have hA := agree_done (agree_step (agree_step (agree_step (agree_step (agree_step (agree_step (agree_step (agree_step (agree_step (agree_step (agree_step (agree_step (agree_init [44, 45, 46, 47, 48, 49, 50, 51, 52, 53, 54, 6] hsz hs (by kernel_rfl)) r0) r1) r2) r3) r4) rv5) r6) r7) r8) r9) r10) r11)
    have ha := act_of hA hdef
    rw [ha]
    clear ha hA hs hsz hdef r0 r1 r2 r3 r4 r6 r7 r8 r9 r10 r11 rv5
    simp only [List.setIfInBounds_toArray]
    dsimp only [List.set_cons_zero, List.set_cons_succ]
    (try simp only [Exit.then])
    simp only [Option.isSome_some, if_true]
    go_wp2_with fail
    go_ret
    exact ⟨rfl, hp1.trans hp⟩
end Go.Proofs.Ytdjbhbefghihcaa
