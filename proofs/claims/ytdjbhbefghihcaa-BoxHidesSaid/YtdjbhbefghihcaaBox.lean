/- Package box. -/
import Derived.Test.YtdjbhbefghihcaaStream
import Derived.Test.YtdjbhbefghihcaaTag2
set_option linter.unusedSimpArgs false
set_option linter.unusedVariables false
namespace Go.Proofs.Ytdjbhbefghihcaa
open Go.RowKit Go.Esc
theorem filledL_length (b : Bs) : (filledL b).length ≤ b.length + 15 := by simp [filledL]; omega
set_option maxRecDepth 100000 in
theorem filled (b : Bs) (hb : b.length ≤ 200000) (w : World) :
    Calls Try.prog 119 #[S b] w fun e w' => e = .returned (S (filledL b)) ∧ Pu w w' := by
  obtain ⟨r, hr⟩ : ∃ r, r = b.length % 16 := ⟨_, rfl⟩
  obtain ⟨z, hz⟩ : ∃ z, z = (16 - r) % 16 := ⟨_, rfl⟩
  have hfin : filledL b = b ++ List.replicate z 0 := by rw [filledL, ← hr, ← hz]
  have e1 : (b.length : Int).tmod 16 = r := by rw [Int.tmod_eq_emod_of_nonneg (by omega)]; omega
  have e1' : (b.length : Int) % 16 = r := by omega
  obtain ⟨d, hd⟩ : ∃ d, d = 16 - r := ⟨_, rfl⟩
  have e2 : (16 : Int) - r = d := by omega
  have e2' : IntKind.i64.wrap (d : Int) = d := by rw [IntKind.wrap_i64]; omega
  have e3 : (d : Int).tmod 16 = z := by rw [Int.tmod_eq_emod_of_nonneg (by omega)]; omega
  have e3' : (d : Int) % 16 = z := by omega
  have hR0 := fun w => rep 0 (z : Int) w (by omega) (by omega)
  rw [show (z : Int).toNat = z from rfl] at hR0
  obtain ⟨zz, hzz⟩ : ∃ l, l = List.replicate z (0 : UInt8) := ⟨_, rfl⟩
  have hzl : zz.length = z := by rw [hzz]; simp
  rw [← hzz] at hR0 hfin
  have hz9 : ¬ (9223372036854775807 < b.length + zz.length) := by omega
  have hz8 : ¬ (9223372036854775807 < b.length + z) := by omega
  have HR := Lib.hid hR0
  have HF := Lib.hid hfin
  clear hR0 hfin hr hz hd hzz
  go_enter Try.func119, Try.ntmps119
  go_wp2_with (go_at_call 77; refine (HR.out _).mono ?_; rintro e w1 ⟨rfl, hp1⟩)
  go_ret
  exact ⟨by rw [HF.out]; rfl, hp1⟩
set_option maxRecDepth 100000 in
set_option maxHeartbeats 1600000 in
theorem boxTagF (key nonce hidden more : Bs) (h : fineL key nonce = true) (hh : hidden.length ≤ 100000) (hm : more.length ≤ 100000) (w : World) :
    Calls Try.prog 88 #[S key, S nonce, S hidden, S more] w fun e w' => e = .returned (.tuple #[S (boxTag key nonce hidden more), .bool true]) ∧ Pu w w' := by
  have hB := fun w => streamBlock key nonce 0 h (by omega) w
  rw [show ((0 : Nat) : Int) = 0 from rfl] at hB
  obtain ⟨blk, hblk⟩ : ∃ l, l = blockL key 0 nonce := ⟨_, rfl⟩
  have hbl : blk.length = 64 := by rw [hblk, blockL_length]
  rw [← hblk] at hB
  have hP1 := fun w => putLittle (more.length : Int) 8 w (by omega) (by omega) (by omega)
  have hP2 := fun w => putLittle (hidden.length : Int) 8 w (by omega) (by omega) (by omega)
  rw [show ((more.length : Int)).toNat = more.length from rfl, show ((8 : Int)).toNat = 8 from rfl] at hP1
  rw [show ((hidden.length : Int)).toNat = hidden.length from rfl, show ((8 : Int)).toNat = 8 from rfl] at hP2
  obtain ⟨p1, hp1⟩ : ∃ l, l = putL more.length 8 := ⟨_, rfl⟩
  obtain ⟨p2, hp2⟩ : ∃ l, l = putL hidden.length 8 := ⟨_, rfl⟩
  have hp1l : p1.length = 8 := by rw [hp1, putL_length]
  have hp2l : p2.length = 8 := by rw [hp2, putL_length]
  rw [← hp1] at hP1
  rw [← hp2] at hP2
  have hF1 := fun w => filled more (by omega) w
  have hF2 := fun w => filled hidden (by omega) w
  have hfl1 := filledL_length more
  have hfl2 := filledL_length hidden
  obtain ⟨f1, hf1⟩ : ∃ l, l = filledL more := ⟨_, rfl⟩
  obtain ⟨f2, hf2⟩ : ∃ l, l = filledL hidden := ⟨_, rfl⟩
  rw [← hf1] at hF1 hfl1
  rw [← hf2] at hF2 hfl2
  obtain ⟨all, hall⟩ : ∃ l, l = f1 ++ (f2 ++ (p1 ++ p2)) := ⟨_, rfl⟩
  have hall' : f1 ++ (f2 ++ (p1 ++ p2)) = all := hall.symm
  have hal : all.length ≤ 300000 := by rw [hall]; simp; omega
  have hT := fun w => tagF (blk.take 32) all (by simp; omega) (by omega) w
  have hfin : boxTag key nonce hidden more = tagL (blk.take 32) all := by rw [boxTag, ← hblk, ← hf1, ← hf2, ← hp1, ← hp2, hall, List.append_assoc]
  have w1' : IntKind.u64.wrap (more.length : Int) = more.length := by rw [IntKind.wrap_u64]; omega
  have w2' : IntKind.u64.wrap (hidden.length : Int) = hidden.length := by rw [IntKind.wrap_u64]; omega
  have z1 : ¬ (9223372036854775807 < p1.length + p2.length) := by omega
  have z1b : ¬ (9223372036854775807 < 8 + 8) := by omega
  have z2 : ¬ (9223372036854775807 < f1.length + f2.length) := by omega
  have z3 : ¬ (9223372036854775807 < (f1.length + f2.length) + (p1 ++ p2).length) := by simp; omega
  have z4 : ¬ (9223372036854775807 < (f1.length + f2.length) + 16) := by omega
  have z5 : ¬ (9223372036854775807 < (f1.length + f2.length) + (8 + 8)) := by omega
  have z6 : ¬ (9223372036854775807 < f1.length + (f2.length + (8 + 8))) := by omega
  have HB := Lib.hid hB
  have HP1 := Lib.hid hP1
  have HP2 := Lib.hid hP2
  have HF1 := Lib.hid hF1
  have HF2 := Lib.hid hF2
  have HT := Lib.hid hT
  have HFIN := Lib.hid hfin
  clear h hB hP1 hP2 hF1 hF2 hT hfin hblk hp1 hp2 hf1 hf2 hall
  go_enter Try.func88, Try.ntmps88
  go_wp2_with (first
    | (go_at_call 116; refine (HB.out _).mono ?_; rintro e w1 ⟨rfl, hpu⟩; have hpu : Pu w w1 := hpu)
    | (go_at_call 117; first
       | (with_reducible refine (HP1.out _).mono ?_
          rintro e w2 ⟨rfl, hp⟩; replace hpu := Pu.trans hpu hp)
       | (with_reducible refine (HP2.out _).mono ?_
          rintro e w3 ⟨rfl, hp⟩; replace hpu := Pu.trans hpu hp)))
  have cF : ∀ args w, (callFunc 119 args).run Try.prog w = .ok (.enter 119 args) w := fun args w => run_callFunc_body Try.func119 (by kernel_rfl) (by kernel_rfl) args w
  have cT : ∀ args w, (callFunc 118 args).run Try.prog w = .ok (.enter 118 args) w := fun args w => run_callFunc_body Try.func118 (by kernel_rfl) (by kernel_rfl) args w
  apply region_pu (Φs := (Is _ :: Is _ :: Is _ :: Is _ :: Is _ :: Is _ :: Is _ :: Is _ :: Is _ :: Is _ :: Is _ :: Is _ :: Is _ :: Is _ :: [])) (hm := by kernel_rfl) (hE := by kernel_rfl) (hD := by kernel_rfl) (hsize := by kernel_rfl)
  case hop =>
    refine ⟨?_, ?_, ?_, ?_, ?_, ?_, ?_, ?_, ?_, ?_, ?_, ?_, ?_, ?_, trivial⟩
    · intro a' w' hs hp he
      have e10 := hs 10 (by kernel_rfl)
      try simp [Is, Region.binds] at he
      exact op_val rfl (wanted_none rfl) (by first | (go_simp; done) | (go_simp; rfl) | (simp [execOp, Act.eval, go_sem, *]; done) | (simp [execOp, Act.eval, go_sem, *]; rfl)) rfl (Pu.refl _)
    · intro a' w' hs hp he
      try simp [Is, Region.binds] at he
      exact op_val rfl (wanted_none rfl) (by first | (go_simp; done) | (go_simp; rfl) | (simp [execOp, Act.eval, go_sem, *]; done) | (simp [execOp, Act.eval, go_sem, *]; rfl)) rfl (Pu.refl _)
    · intro a' w' hs hp he
      have e3 := hs 3 (by kernel_rfl)
      try simp [Is, Region.binds] at he
      exact op_val rfl (wanted_none rfl) (by first | (go_simp; done) | (go_simp; rfl) | (simp [execOp, Act.eval, go_sem, *]; done) | (simp [execOp, Act.eval, go_sem, *]; rfl)) rfl (Pu.refl _)
    · intro a' w' hs hp he
      try simp [Is, Region.binds] at he
      exact op_callP (HF1.out _) rfl (wanted_none rfl) (by first | (go_simp; done) | (go_simp; rfl)) (fun _ => rfl)
    · intro a' w' hs hp he
      have e2 := hs 2 (by kernel_rfl)
      try simp [Is, Region.binds] at he
      exact op_val rfl (wanted_none rfl) (by first | (go_simp; done) | (go_simp; rfl) | (simp [execOp, Act.eval, go_sem, *]; done) | (simp [execOp, Act.eval, go_sem, *]; rfl)) rfl (Pu.refl _)
    · intro a' w' hs hp he
      try simp [Is, Region.binds] at he
      exact op_callP (HF2.out _) rfl (wanted_none rfl) (by first | (go_simp; done) | (go_simp; rfl)) (fun _ => rfl)
    · intro a' w' hs hp he
      try simp [Is, Region.binds] at he
      exact op_val rfl (wanted_none rfl) (by first | (go_simp; done) | (go_simp; rfl) | (simp [execOp, Act.eval, go_sem, *]; done) | (simp [execOp, Act.eval, go_sem, *]; rfl)) rfl (Pu.refl _)
    · intro a' w' hs hp he
      have e12 := hs 12 (by kernel_rfl)
      try simp [Is, Region.binds] at he
      exact op_val rfl (wanted_none rfl) (by first | (go_simp; done) | (go_simp; rfl) | (simp [execOp, Act.eval, go_sem, *]; done) | (simp [execOp, Act.eval, go_sem, *]; rfl)) rfl (Pu.refl _)
    · intro a' w' hs hp he
      try simp [Is, Region.binds] at he
      exact op_val rfl (wanted_none rfl) (by first | (go_simp; done) | (go_simp; rfl) | (simp [execOp, Act.eval, go_sem, *]; done) | (simp [execOp, Act.eval, go_sem, *]; rfl)) rfl (Pu.refl _)
    · intro a' w' hs hp he
      try simp [Is, Region.binds] at he
      exact op_callP (HT.out _) rfl (wanted_none rfl) (by first | (go_simp; done) | (go_simp; rfl)) (fun _ => rfl)
    · intro a' w' hs hp he
      try simp [Is, Region.binds] at he
      exact op_val rfl (wanted_none rfl) (by first | (go_simp; done) | (go_simp; rfl) | (simp [execOp, Act.eval, go_sem, *]; done) | (simp [execOp, Act.eval, go_sem, *]; rfl)) rfl (Pu.refl _)
    · intro a' w' hs hp he
      try simp [Is, Region.binds] at he
      exact op_val rfl (wanted_none rfl) (by first | (go_simp; done) | (go_simp; rfl) | (simp [execOp, Act.eval, go_sem, *]; done) | (simp [execOp, Act.eval, go_sem, *]; rfl)) rfl (Pu.refl _)
    · intro a' w' hs hp he
      try simp [Is, Region.binds] at he
      exact op_val rfl (wanted_none rfl) (by first | (go_simp; done) | (go_simp; rfl) | (simp [execOp, Act.eval, go_sem, *]; done) | (simp [execOp, Act.eval, go_sem, *]; rfl)) rfl (Pu.refl _)
    · intro a' w' hs hp he
      try simp [Is, Region.binds] at he
      exact op_val rfl (wanted_none rfl) (by first | (go_simp; done) | (go_simp; rfl) | (simp [execOp, Act.eval, go_sem, *]; done) | (simp [execOp, Act.eval, go_sem, *]; rfl)) rfl (Pu.refl _)
  case hend =>
    intro a' w' hdef hsz hs hp hall
    obtain ⟨r0, r1, r2, r3, r4, r5, r6, r7, r8, r9, r10, r11, r12, r13, -⟩ := hall
    have hA := agree_done (agree_step (agree_step (agree_step (agree_step (agree_step (agree_step (agree_step (agree_step (agree_step (agree_step (agree_step (agree_step (agree_step (agree_step (agree_init [30, 31, 32, 33, 34, 35, 36, 37, 38, 39, 40, 41, 8, 9] hsz hs (by kernel_rfl)) r0) r1) r2) r3) r4) r5) r6) r7) r8) r9) r10) r11) r12) r13)
    have ha := act_of hA hdef
    rw [ha]
    clear ha hA hs hsz hdef r0 r1 r2 r3 r4 r5 r6 r7 r8 r9 r10 r11 r12 r13 
    (try simp only [List.setIfInBounds_toArray])
    (try dsimp only [List.set_cons_zero, List.set_cons_succ])
    (try simp only [Exit.then])
    go_wp2_with fail
    go_ret2
    exact ⟨by rw [HFIN.out]; rfl, Pu.trans hpu hp⟩
theorem boxTagF_no (key nonce hidden more : Bs) (h : fineL key nonce = false) (w : World) :
    Calls Try.prog 88 #[S key, S nonce, S hidden, S more] w fun e w' => e = .returned (.tuple #[S [], .bool false]) ∧ w' = w := by
  have hB := fun w => streamBlock_no key nonce 0 h w
  rw [show ((0 : Nat) : Int) = 0 from rfl] at hB
  have HB := Lib.hid hB
  clear h hB
  go_enter Try.func88, Try.ntmps88
  go_wp2_with (go_at_call 116; refine (HB.out _).mono ?_; rintro e w1 ⟨rfl, hw1⟩; subst w1)
  go_ret2
  exact ⟨rfl, rfl⟩
set_option maxHeartbeats 1600000 in
theorem sealYes (key nonce plain more : Bs) (h : fineL key nonce = true) (hh : plain.length ≤ 90000) (hm : more.length ≤ 100000) (w : World) :
    Calls Try.prog 49 #[S key, S nonce, S plain, S more] w fun e w' => e = .returned (.tuple #[S (sealL key nonce plain more), .bool true]) ∧ Pu w w' := by
  have hX := fun w => streamXor key nonce plain 1 h (by omega) (by omega) w
  rw [show ((1 : Nat) : Int) = 1 from rfl] at hX
  have hcl := streamL_length key 1 nonce plain
  obtain ⟨c, hc⟩ : ∃ l, l = streamL key 1 nonce plain := ⟨_, rfl⟩
  rw [← hc] at hX hcl
  have hT := fun w => boxTagF key nonce c more h (by omega) hm w
  have htl := boxTag_length key nonce c more
  obtain ⟨t, ht⟩ : ∃ l, l = boxTag key nonce c more := ⟨_, rfl⟩
  rw [← ht] at hT htl
  have hfin : sealL key nonce plain more = c ++ t := by rw [ht, hc]; rfl
  have z1 : ¬ (9223372036854775807 < c.length + t.length) := by omega
  have z2 : ¬ (9223372036854775807 < plain.length + 16) := by omega
  have HX := Lib.hid hX
  have HT := Lib.hid hT
  have HF := Lib.hid hfin
  clear h hX hT hfin hc ht
  go_enter Try.func49, Try.ntmps49
  go_wp2_with (first
    | (go_at_call 87; refine (HX.out _).mono ?_; rintro e w1 ⟨rfl, hp1⟩)
    | (go_at_call 88; refine (HT.out _).mono ?_; rintro e w2 ⟨rfl, hp2⟩))
  go_ret2
  exact ⟨by rw [HF.out]; rfl, Pu.trans hp1 hp2⟩
theorem sealNo (key nonce plain more : Bs) (h : fineL key nonce = false) (w : World) :
    Calls Try.prog 49 #[S key, S nonce, S plain, S more] w fun e w' => e = .returned (.tuple #[S [], .bool false]) ∧ w' = w := by
  have hX := fun w => streamXor_no key nonce plain 1 h w
  rw [show ((1 : Nat) : Int) = 1 from rfl] at hX
  have HX := Lib.hid hX
  clear h hX
  go_enter Try.func49, Try.ntmps49
  go_wp2_with (go_at_call 87; refine (HX.out _).mono ?_; rintro e w1 ⟨rfl, hw1⟩; subst w1)
  go_ret2
  exact ⟨rfl, rfl⟩
set_option maxRecDepth 100000 in
theorem addI32 (a : Addr) (x : Int) (w : World) (hx : 0 ≤ x ∧ x < 1000000000) (hc : w.cell? a = some (.int .i32 x)) (hz : w.frozen? a = false) :
    Calls Try.prog 94 #[.pointer (some a), .int .i32 1] w fun e w' => e = .returned (.int .i32 (x + 1)) ∧ w' = w.setCell a (.int .i32 (x + 1)) := by
  have hs : (Op.intArith .add .i32 x 1).run Try.prog w = .ok (.int .i32 (x + 1)) w := by
    have : IntKind.i32.wrap (x + 1) = x + 1 := by rw [IntKind.wrap_i32]; omega
    show (Sem.pure (Value.int .i32 (IntKind.i32.wrap (x + 1)))).run _ w = _
    rw [this]; rfl
  have hadd := run_call_add (P := Try.prog) Try.func125 (by kernel_rfl) (by kernel_rfl) (by kernel_rfl) .i32 (by kernel_rfl) (y := 1) hc hz hs
  go_enter Try.func94, Try.ntmps94
  go_wp2_with fail
  go_ret
  exact ⟨rfl, rfl⟩
set_option maxRecDepth 100000 in
theorem loadI32 (a : Addr) (x : Int) (w : World) (hc : w.cell? a = some (.int .i32 x)) :
    Calls Try.prog 95 #[.pointer (some a)] w fun e w' => e = .returned (.int .i32 x) ∧ w' = w := by
  have hl := run_call_load (P := Try.prog) Try.func126 (by kernel_rfl) (by kernel_rfl) (by kernel_rfl) .i32 (by kernel_rfl) hc
  go_enter Try.func95, Try.ntmps95
  go_wp2_with fail
  go_ret
  exact ⟨rfl, rfl⟩
end Go.Proofs.Ytdjbhbefghihcaa
