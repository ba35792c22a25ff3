/- Chapter 13: RecordHeads. -/
import Derived.Test.YticdbilkhkfopaaGreatT18
set_option linter.unusedSimpArgs false
set_option linter.unusedVariables false
namespace Go.Proofs.YticdbilkhkfopaaGreat
open Go.RowKit Go.Esc
set_option maxRecDepth 100000 in
set_option maxHeartbeats 3200000 in
theorem recordHeads_walk (s : ByteArray) (hs : s.size ≤ maxLen) (s' : ByteArray) (_ : s'.size ≤ maxLen) (n : Int) (_ : (Lit.int .i64 n).wf = true) (w : World) :
    Calls Tryz.prog 14 #[.string s, .string s', .int .i64 n] w fun e w' => e = .returned (.bool true) ∧ Pu w w' := by
  obtain ⟨k0, rfl⟩ : ∃ a, s = bs a := ⟨_, bs_eta s⟩
  obtain ⟨b, rfl⟩ : ∃ c, s' = bs c := ⟨_, bs_eta s'⟩
  have hk0 : k0.length ≤ 9223372036854775807 := by rw [bs_size] at hs; unfold maxLen at hs; omega
  clear hs
  by_cases hg : 100 < b.length ∨ n < 1 ∨ 40 < n
  · rcases (by omega : 100 < b.length ∨ (b.length ≤ 100 ∧ n < 1) ∨ (b.length ≤ 100 ∧ 1 ≤ n ∧ 40 < n)) with h1 | ⟨h1, h2⟩ | ⟨h1, h2, h3⟩
    · have q1 : (100 : Int) < b.length := by omega
      clear hg
      go_enter Tryz.func14, Tryz.ntmps14
      go_wp2_with (go_at_call 53; refine (alive13 _).mono ?_; rintro e w1 ⟨rfl, hp1⟩)
      go_ret
      exact ⟨rfl, hp1⟩
    · have q1 : ¬ (100 : Int) < b.length := by omega
      clear hg
      go_enter Tryz.func14, Tryz.ntmps14
      go_wp2_with (go_at_call 53; refine (alive13 _).mono ?_; rintro e w1 ⟨rfl, hp1⟩)
      go_ret
      exact ⟨rfl, hp1⟩
    · have q1 : ¬ (100 : Int) < b.length := by omega
      have q2 : ¬ n < 1 := by omega
      clear hg
      go_enter Tryz.func14, Tryz.ntmps14
      go_wp2_with (go_at_call 53; refine (alive13 _).mono ?_; rintro e w1 ⟨rfl, hp1⟩)
      go_ret
      exact ⟨rfl, hp1⟩
  · obtain ⟨h1, h2, h3⟩ : b.length ≤ 100 ∧ 1 ≤ n ∧ n ≤ 40 := by omega
    obtain ⟨N, rfl⟩ := Int.eq_ofNat_of_zero_le (show 0 ≤ n by omega)
    have q1 : ¬ (100 : Int) < b.length := by omega
    have q2 : ¬ (N : Int) < 1 := by omega
    have q3 : ¬ (40 : Int) < N := by omega
    have hN : N ≤ 40 := by omega
    obtain ⟨pp, hpp⟩ := padL_short (p := b) (by omega)
    have hfl := fun w => fillAny k0 32 hk0 (by decide) w
    have hkl := fillL_length k0 32
    obtain ⟨key, hkey⟩ : ∃ k, k = fillL k0 32 := ⟨_, rfl⟩
    rw [← hkey] at hfl hkl
    have HF := Lib.hid hfl
    have HPP := Lib.hid hpp
    have HKL := Lib.hid hkl
    clear hg hfl hpp hkl hkey h2 h3
    go_enter Tryz.func14, Tryz.ntmps14
    go_wp2_with (first
      | (go_at_call 53; refine (alive13 _).mono ?_; rintro e w1 ⟨rfl, hp1⟩)
      | (go_at_call 26; refine (HF.out _).mono ?_; rintro e w2 ⟨rfl, rfl⟩)
      | (go_at_call 54; refine (newOut key HKL.out _).mono ?_; rintro e w3 ⟨ob, rfl, ho3, hp3⟩))
    go_loopw [8] (fun x wr => ∃ (k : Nat) (G : Nat → Prop), k ≤ N ∧ x = .int .i64 (k : Int) ∧ OutAt G wr ob key k k ∧ (∀ g, G g → w.heap.size ≤ g) ∧ Pu w wr) (fun x _ => N - (intOf x).toNat)
    case atStart => exact ⟨0, _, Nat.zero_le _, rfl, ho3, Gw.low (fun _ h => h.elim) hp1.size, hp1.trans hp3⟩
    case round =>
      clear ho3
      obtain ⟨k, G, hk, rfl, ho, hlow, hpu⟩ := hrel
      by_cases hlt : k < N
      · have hk1 : (k : Int) < N := by omega
        have hk2 : (k : Int) < 40 := by omega
        have hrl := recL_le key k HPP.out
        have htk := recL_take key k b
        have hB := fun w => refPutBig (k : Int) 8 w (by omega) (by omega) (by decide) (by decide)
        rw [show ((k : Int)).toNat = k from rfl, show ((8 : Int)).toNat = 8 from rfl] at hB
        obtain ⟨r, hr⟩ : ∃ r, r = recL key k b := ⟨_, rfl⟩
        obtain ⟨hd, hhd⟩ : ∃ hd, hd = putB k 8 := ⟨_, rfl⟩
        rw [← hhd] at htk hB
        rw [← hr] at htk hrl
        have hq : (hd == hd) = true := by simp
        have l1 : decide ((r.length : Int) < 24) = false := by simp; omega
        have l3 : IntKind.u64.wrap (k : Int) = k := by rw [IntKind.wrap_u64]; omega
        have l2 : (8 : Int) ≤ r.length := by omega
        have HR := Lib.hid hr
        have HB := Lib.hid hB
        have cB : ∀ args w, (callFunc 58 args).run Tryz.prog w = .ok (.enter 58 args) w := fun args w => run_callFunc_body Tryz.func58 (by kernel_rfl) (by kernel_rfl) args w
        clear hr hhd hB
        go_wp2_with (go_at_call 55; refine (sealOk ho HKL.out b _ (by omega) HPP.out (by omega) (by omega)).mono ?_; rw [← HR.out]; rintro e w6 ⟨rfl, ho6, hc6⟩)
        apply region_pu (Φs := (Is _ :: Is _ :: Is _ :: Is _ :: Is _ :: Is _ :: Is _ :: Is _ :: Is _ :: Is _ :: Is _ :: Is _ :: Is _ :: Is _ :: Is _ :: [])) (hm := by kernel_rfl) (hE := by kernel_rfl) (hD := by kernel_rfl) (hsize := by kernel_rfl)
        case hop =>
          refine ⟨?_, ?_, ?_, ?_, ?_, ?_, ?_, ?_, ?_, ?_, ?_, ?_, ?_, ?_, ?_, trivial⟩
          · intro a' w' hs hp he
            have e10 := hs 10 (by kernel_rfl)
            try simp [Is, Region.binds] at he
            exact op_val rfl (wanted_none rfl) (by first | (go_simp; done) | (go_simp; rfl) | (simp [execOp, Act.eval, go_sem, *]; done) | (simp [execOp, Act.eval, go_sem, *]; rfl)) rfl (Pu.refl _)
          · intro a' w' hs hp he
            try simp [Is, Region.binds] at he
            exact op_val rfl (wanted_none rfl) (by first | (go_simp; done) | (go_simp; rfl) | (simp [execOp, Act.eval, go_sem, *]; done) | (simp [execOp, Act.eval, go_sem, *]; rfl)) rfl (Pu.refl _)
          · intro a' w' hs hp he
            try simp [Is, Region.binds] at he
            exact op_val rfl (wanted_none rfl) (by first | (go_simp; done) | (go_simp; rfl) | (simp [execOp, Act.eval, go_sem, *]; done) | (simp [execOp, Act.eval, go_sem, *]; rfl)) rfl (Pu.refl _)
          · intro a' w' hs hp he
            have e9 := hs 9 (by kernel_rfl)
            try simp [Is, Region.binds] at he
            first | exact op_skip rfl ((wanted_some rfl rfl (by first | (simp [he]; done) | (simp [he]; rfl))).trans rfl) rfl | exact op_val rfl ((wanted_some rfl rfl (by first | (simp [he]; done) | (simp [he]; rfl))).trans rfl) (by first | (go_simp; done) | (go_simp; rfl) | (simp [execOp, Act.eval, go_sem, *]; done) | (simp [execOp, Act.eval, go_sem, *]; rfl)) rfl (Pu.refl _)
          · intro a' w' hs hp he
            try simp [Is, Region.binds] at he
            first | exact op_skip rfl ((wanted_some rfl rfl (by first | (simp [he]; done) | (simp [he]; rfl))).trans rfl) rfl | exact op_val rfl ((wanted_some rfl rfl (by first | (simp [he]; done) | (simp [he]; rfl))).trans rfl) (by first | (go_simp; done) | (go_simp; rfl) | (simp [execOp, Act.eval, go_sem, *]; done) | (simp [execOp, Act.eval, go_sem, *]; rfl)) rfl (Pu.refl _)
          · intro a' w' hs hp he
            try simp [Is, Region.binds] at he
            first | exact op_skip rfl ((wanted_some rfl rfl (by first | (simp [he]; done) | (simp [he]; rfl))).trans rfl) rfl | exact op_val rfl ((wanted_some rfl rfl (by first | (simp [he]; done) | (simp [he]; rfl))).trans rfl) (by first | (go_simp; done) | (go_simp; rfl) | (simp [execOp, Act.eval, go_sem, *]; done) | (simp [execOp, Act.eval, go_sem, *]; rfl)) rfl (Pu.refl _)
          · intro a' w' hs hp he
            try simp [Is, Region.binds] at he
            exact op_val rfl (wanted_none rfl) (by first | (go_simp; done) | (go_simp; rfl) | (simp [execOp, Act.eval, go_sem, *]; done) | (simp [execOp, Act.eval, go_sem, *]; rfl)) rfl (Pu.refl _)
          · intro a' w' hs hp he
            try simp [Is, Region.binds] at he
            exact op_val rfl (wanted_none rfl) (by first | (go_simp; done) | (go_simp; rfl) | (simp [execOp, Act.eval, go_sem, *]; done) | (simp [execOp, Act.eval, go_sem, *]; rfl)) rfl (Pu.refl _)
          · intro a' w' hs hp he
            have e9 := hs 9 (by kernel_rfl)
            try simp [Is, Region.binds] at he
            first | exact op_skip rfl ((wanted_some rfl rfl (by first | (simp [he]; done) | (simp [he]; rfl))).trans rfl) rfl | exact op_val rfl ((wanted_some rfl rfl (by first | (simp [he]; done) | (simp [he]; rfl))).trans rfl) (by first | (go_simp; done) | (go_simp; rfl) | (simp [execOp, Act.eval, go_sem, *]; done) | (simp [execOp, Act.eval, go_sem, *]; rfl)) rfl (Pu.refl _)
          · intro a' w' hs hp he
            try simp [Is, Region.binds] at he
            first | exact op_skip rfl ((wanted_some rfl rfl (by first | (simp [he]; done) | (simp [he]; rfl))).trans rfl) rfl | exact op_val rfl ((wanted_some rfl rfl (by first | (simp [he]; done) | (simp [he]; rfl))).trans rfl) (by first | (go_simp; done) | (go_simp; rfl) | (simp [execOp, Act.eval, go_sem, *]; done) | (simp [execOp, Act.eval, go_sem, *]; rfl)) rfl (Pu.refl _)
          · intro a' w' hs hp he
            have e8 := hs 8 (by kernel_rfl)
            try simp [Is, Region.binds] at he
            first | exact op_skip rfl ((wanted_some rfl rfl (by first | (simp [he]; done) | (simp [he]; rfl))).trans rfl) rfl | exact op_val rfl ((wanted_some rfl rfl (by first | (simp [he]; done) | (simp [he]; rfl))).trans rfl) (by first | (go_simp; done) | (go_simp; rfl) | (simp [execOp, Act.eval, go_sem, *]; done) | (simp [execOp, Act.eval, go_sem, *]; rfl)) rfl (Pu.refl _)
          · intro a' w' hs hp he
            try simp [Is, Region.binds] at he
            first | exact op_skip rfl ((wanted_some rfl rfl (by first | (simp [he]; done) | (simp [he]; rfl))).trans rfl) rfl | exact op_val rfl ((wanted_some rfl rfl (by first | (simp [he]; done) | (simp [he]; rfl))).trans rfl) (by first | (go_simp; done) | (go_simp; rfl) | (simp [execOp, Act.eval, go_sem, *]; done) | (simp [execOp, Act.eval, go_sem, *]; rfl)) rfl (Pu.refl _)
          · intro a' w' hs hp he
            try simp [Is, Region.binds] at he
            exact op_callP (HB.out _) rfl ((wanted_some rfl rfl (by first | (simp [he]; done) | (simp [he]; rfl))).trans rfl) (by first | (go_simp; done) | (go_simp; rfl)) (fun _ => rfl)
          · intro a' w' hs hp he
            try simp [Is, Region.binds] at he
            first | exact op_skip rfl ((wanted_some rfl rfl (by first | (simp [he]; done) | (simp [he]; rfl))).trans rfl) rfl | exact op_val rfl ((wanted_some rfl rfl (by first | (simp [he]; done) | (simp [he]; rfl))).trans rfl) (by first | (go_simp; done) | (go_simp; rfl) | (simp [execOp, Act.eval, go_sem, *]; done) | (simp [execOp, Act.eval, go_sem, *]; rfl)) rfl (Pu.refl _)
          · intro a' w' hs hp he
            try simp [Is, Region.binds] at he
            exact op_val rfl (wanted_none rfl) (by first | (go_simp; done) | (go_simp; rfl) | (simp [execOp, Act.eval, go_sem, *]; done) | (simp [execOp, Act.eval, go_sem, *]; rfl)) rfl (Pu.refl _)
        case hend =>
          intro a' w' hdef hsz hs hp hall
          obtain ⟨r0, r1, r2, r3, r4, r5, r6, r7, r8, r9, r10, r11, r12, r13, r14, -⟩ := hall
          have hA := agree_done (agree_step (agree_step (agree_step (agree_step (agree_step (agree_step (agree_step (agree_step (agree_step (agree_step (agree_step (agree_step (agree_step (agree_step (agree_step (agree_init [43, 44, 45, 46, 47, 48, 49, 50, 51, 52, 53, 54, 55, 56, 57] hsz hs (by kernel_rfl)) r0) r1) r2) r3) r4) r5) r6) r7) r8) r9) r10) r11) r12) r13) r14)
          have ha := act_of hA hdef
          rw [ha]
          clear ha hA hs hsz hdef r0 r1 r2 r3 r4 r5 r6 r7 r8 r9 r10 r11 r12 r13 r14 
          (try simp only [List.setIfInBounds_toArray])
          (try dsimp only [List.set_cons_zero, List.set_cons_succ])
          (try simp only [Exit.then])
          have hp' := hp
          clear hp
          go_wp2_with fail
          go_roundw
          case rel => exact ⟨k+1, _, by omega, by go_num, ho6.pu hp', Gw.low hlow hpu.size, (Cg.since hpu hc6 hlow).trans hp'⟩
          case measure => simp [intOf]; omega
      · obtain rfl : k = N := by omega
        have hlt' : decide ((k : Int) < k) = false := by simp
        go_wp2_with fail
        go_ret
        exact ⟨rfl, hpu⟩
end Go.Proofs.YticdbilkhkfopaaGreat
