/- Package box. Package box: Seal, Open, in one word. Package record: records are sealed. -/
import Derived.Test.YtfbnaemnblannaaGreatT14
set_option linter.unusedSimpArgs false
set_option linter.unusedVariables false
set_option linter.unusedSimpArgs false
set_option linter.unusedVariables false
namespace Go.Proofs.YtfbnaemnblannaaGreat
open Go.RowKit Go.Esc
theorem filledL_length (b : Bs) : (filledL b).length ≤ b.length + 15 := by simp [filledL]; omega
set_option maxRecDepth 100000 in
theorem filled (b : Bs) (hb : b.length ≤ 200000) (w : World) :
    Calls Tryz.prog 64 #[S b] w fun e w' => e = .returned (S (filledL b)) ∧ Pu w w' := by
  obtain ⟨r, hr⟩ : ∃ r, r = b.length % 16 := ⟨_, rfl⟩
  obtain ⟨z, hz⟩ : ∃ z, z = (16 - r) % 16 := ⟨_, rfl⟩
  have hfin : filledL b = b ++ List.replicate z 0 := by rw [filledL, ← hr, ← hz]
  have e1 : (b.length : Int).tmod 16 = r := by rw [Int.tmod_eq_emod_of_nonneg (by omega)]; omega
  have e1' : (b.length : Int) % 16 = r := by omega
  obtain ⟨d, hd⟩ : ∃ d, d = 16 - r := ⟨_, rfl⟩
  have e2 : (16 : Int) - r = d := by omega
  have e2' : IntKind.i64.wrap (d : Int) = d := by rw [IntKind.wrap_i64]; omega
  have e3 : (d : Int).tmod 16 = z := by rw [Int.tmod_eq_emod_of_nonneg (by omega)]; omega
  have e3' : (d : Int) % 16 = z := by omega
  have hR0 := fun w => rep 0 (z : Int) w (by omega) (by omega)
  rw [show (z : Int).toNat = z from rfl] at hR0
  obtain ⟨zz, hzz⟩ : ∃ l, l = List.replicate z (0 : UInt8) := ⟨_, rfl⟩
  have hzl : zz.length = z := by rw [hzz]; simp
  rw [← hzz] at hR0 hfin
  have hz9 : ¬ (9223372036854775807 < b.length + zz.length) := by omega
  have hz8 : ¬ (9223372036854775807 < b.length + z) := by omega
  have HR := Lib.hid hR0
  have HF := Lib.hid hfin
  clear hR0 hfin hr hz hd hzz
  go_enter Tryz.func64, Tryz.ntmps64
  go_wp2_with (go_at_call 30; refine (HR.out _).mono ?_; rintro e w1 ⟨rfl, hp1⟩)
  go_ret
  exact ⟨by rw [HF.out]; rfl, hp1⟩
set_option maxRecDepth 100000 in
set_option maxHeartbeats 1600000 in
theorem boxTagF (key nonce hidden more : Bs) (h : fineL key nonce = true) (hh : hidden.length ≤ 100000) (hm : more.length ≤ 100000) (w : World) :
    Calls Tryz.prog 32 #[S key, S nonce, S hidden, S more] w fun e w' => e = .returned (.tuple #[S (boxTag key nonce hidden more), .bool true]) ∧ Pu w w' := by
  have hB := fun w => streamBlock key nonce 0 h (by omega) w
  rw [show ((0 : Nat) : Int) = 0 from rfl] at hB
  obtain ⟨blk, hblk⟩ : ∃ l, l = blockL key 0 nonce := ⟨_, rfl⟩
  have hbl : blk.length = 64 := by rw [hblk, blockL_length]
  rw [← hblk] at hB
  have hP1 := fun w => putLittle (more.length : Int) 8 w (by omega) (by omega) (by omega)
  have hP2 := fun w => putLittle (hidden.length : Int) 8 w (by omega) (by omega) (by omega)
  rw [show ((more.length : Int)).toNat = more.length from rfl, show ((8 : Int)).toNat = 8 from rfl] at hP1
  rw [show ((hidden.length : Int)).toNat = hidden.length from rfl, show ((8 : Int)).toNat = 8 from rfl] at hP2
  obtain ⟨p1, hp1⟩ : ∃ l, l = putL more.length 8 := ⟨_, rfl⟩
  obtain ⟨p2, hp2⟩ : ∃ l, l = putL hidden.length 8 := ⟨_, rfl⟩
  have hp1l : p1.length = 8 := by rw [hp1, putL_length]
  have hp2l : p2.length = 8 := by rw [hp2, putL_length]
  rw [← hp1] at hP1
  rw [← hp2] at hP2
  have hF1 := fun w => filled more (by omega) w
  have hF2 := fun w => filled hidden (by omega) w
  have hfl1 := filledL_length more
  have hfl2 := filledL_length hidden
  obtain ⟨f1, hf1⟩ : ∃ l, l = filledL more := ⟨_, rfl⟩
  obtain ⟨f2, hf2⟩ : ∃ l, l = filledL hidden := ⟨_, rfl⟩
  rw [← hf1] at hF1 hfl1
  rw [← hf2] at hF2 hfl2
  obtain ⟨all, hall⟩ : ∃ l, l = f1 ++ (f2 ++ (p1 ++ p2)) := ⟨_, rfl⟩
  have hall' : f1 ++ (f2 ++ (p1 ++ p2)) = all := hall.symm
  have hal : all.length ≤ 300000 := by rw [hall]; simp; omega
  have hT := fun w => tagF (blk.take 32) all (by simp; omega) (by omega) w
  have hfin : boxTag key nonce hidden more = tagL (blk.take 32) all := by rw [boxTag, ← hblk, ← hf1, ← hf2, ← hp1, ← hp2, hall, List.append_assoc]
  have w1' : IntKind.u64.wrap (more.length : Int) = more.length := by rw [IntKind.wrap_u64]; omega
  have w2' : IntKind.u64.wrap (hidden.length : Int) = hidden.length := by rw [IntKind.wrap_u64]; omega
  have z1 : ¬ (9223372036854775807 < p1.length + p2.length) := by omega
  have z1b : ¬ (9223372036854775807 < 8 + 8) := by omega
  have z2 : ¬ (9223372036854775807 < f1.length + f2.length) := by omega
  have z3 : ¬ (9223372036854775807 < (f1.length + f2.length) + (p1 ++ p2).length) := by simp; omega
  have z4 : ¬ (9223372036854775807 < (f1.length + f2.length) + 16) := by omega
  have z5 : ¬ (9223372036854775807 < (f1.length + f2.length) + (8 + 8)) := by omega
  have z6 : ¬ (9223372036854775807 < f1.length + (f2.length + (8 + 8))) := by omega
  have HB := Lib.hid hB
  have HP1 := Lib.hid hP1
  have HP2 := Lib.hid hP2
  have HF1 := Lib.hid hF1
  have HF2 := Lib.hid hF2
  have HT := Lib.hid hT
  have HFIN := Lib.hid hfin
  clear h hB hP1 hP2 hF1 hF2 hT hfin hblk hp1 hp2 hf1 hf2 hall
  go_enter Tryz.func32, Tryz.ntmps32
  go_wp2_with (first
    | (go_at_call 61; refine (HB.out _).mono ?_; rintro e w1 ⟨rfl, hpu⟩; have hpu : Pu w w1 := hpu)
    | (go_at_call 62; first
       | (with_reducible refine (HP1.out _).mono ?_
          rintro e w2 ⟨rfl, hp⟩; replace hpu := Pu.trans hpu hp)
       | (with_reducible refine (HP2.out _).mono ?_
          rintro e w3 ⟨rfl, hp⟩; replace hpu := Pu.trans hpu hp)))
  have cF : ∀ args w, (callFunc 64 args).run Tryz.prog w = .ok (.enter 64 args) w := fun args w => run_callFunc_body Tryz.func64 (by kernel_rfl) (by kernel_rfl) args w
  have cT : ∀ args w, (callFunc 63 args).run Tryz.prog w = .ok (.enter 63 args) w := fun args w => run_callFunc_body Tryz.func63 (by kernel_rfl) (by kernel_rfl) args w
  apply region_pu (Φs := (Is _ :: Is _ :: Is _ :: Is _ :: Is _ :: Is _ :: Is _ :: Is _ :: Is _ :: Is _ :: Is _ :: Is _ :: Is _ :: Is _ :: [])) (hm := by kernel_rfl) (hE := by kernel_rfl) (hD := by kernel_rfl) (hsize := by kernel_rfl)
  case hop =>
    refine ⟨?_, ?_, ?_, ?_, ?_, ?_, ?_, ?_, ?_, ?_, ?_, ?_, ?_, ?_, trivial⟩
    · intro a' w' hs hp he
      have e10 := hs 10 (by kernel_rfl)
      try simp [Is, Region.binds] at he
      exact op_val rfl (wanted_none rfl) (by first | (go_simp; done) | (go_simp; rfl) | (simp [execOp, Act.eval, go_sem, *]; done) | (simp [execOp, Act.eval, go_sem, *]; rfl)) rfl (Pu.refl _)
    · intro a' w' hs hp he
      try simp [Is, Region.binds] at he
      exact op_val rfl (wanted_none rfl) (by first | (go_simp; done) | (go_simp; rfl) | (simp [execOp, Act.eval, go_sem, *]; done) | (simp [execOp, Act.eval, go_sem, *]; rfl)) rfl (Pu.refl _)
    · intro a' w' hs hp he
      have e3 := hs 3 (by kernel_rfl)
      try simp [Is, Region.binds] at he
      exact op_val rfl (wanted_none rfl) (by first | (go_simp; done) | (go_simp; rfl) | (simp [execOp, Act.eval, go_sem, *]; done) | (simp [execOp, Act.eval, go_sem, *]; rfl)) rfl (Pu.refl _)
    · intro a' w' hs hp he
      try simp [Is, Region.binds] at he
      exact op_callP (HF1.out _) rfl (wanted_none rfl) (by first | (go_simp; done) | (go_simp; rfl)) (fun _ => rfl)
    · intro a' w' hs hp he
      have e2 := hs 2 (by kernel_rfl)
      try simp [Is, Region.binds] at he
      exact op_val rfl (wanted_none rfl) (by first | (go_simp; done) | (go_simp; rfl) | (simp [execOp, Act.eval, go_sem, *]; done) | (simp [execOp, Act.eval, go_sem, *]; rfl)) rfl (Pu.refl _)
    · intro a' w' hs hp he
      try simp [Is, Region.binds] at he
      exact op_callP (HF2.out _) rfl (wanted_none rfl) (by first | (go_simp; done) | (go_simp; rfl)) (fun _ => rfl)
    · intro a' w' hs hp he
      try simp [Is, Region.binds] at he
      exact op_val rfl (wanted_none rfl) (by first | (go_simp; done) | (go_simp; rfl) | (simp [execOp, Act.eval, go_sem, *]; done) | (simp [execOp, Act.eval, go_sem, *]; rfl)) rfl (Pu.refl _)
    · intro a' w' hs hp he
      have e12 := hs 12 (by kernel_rfl)
      try simp [Is, Region.binds] at he
      exact op_val rfl (wanted_none rfl) (by first | (go_simp; done) | (go_simp; rfl) | (simp [execOp, Act.eval, go_sem, *]; done) | (simp [execOp, Act.eval, go_sem, *]; rfl)) rfl (Pu.refl _)
    · intro a' w' hs hp he
      try simp [Is, Region.binds] at he
      exact op_val rfl (wanted_none rfl) (by first | (go_simp; done) | (go_simp; rfl) | (simp [execOp, Act.eval, go_sem, *]; done) | (simp [execOp, Act.eval, go_sem, *]; rfl)) rfl (Pu.refl _)
    · intro a' w' hs hp he
      try simp [Is, Region.binds] at he
      exact op_callP (HT.out _) rfl (wanted_none rfl) (by first | (go_simp; done) | (go_simp; rfl)) (fun _ => rfl)
    · intro a' w' hs hp he
      try simp [Is, Region.binds] at he
      exact op_val rfl (wanted_none rfl) (by first | (go_simp; done) | (go_simp; rfl) | (simp [execOp, Act.eval, go_sem, *]; done) | (simp [execOp, Act.eval, go_sem, *]; rfl)) rfl (Pu.refl _)
    · intro a' w' hs hp he
      try simp [Is, Region.binds] at he
      exact op_val rfl (wanted_none rfl) (by first | (go_simp; done) | (go_simp; rfl) | (simp [execOp, Act.eval, go_sem, *]; done) | (simp [execOp, Act.eval, go_sem, *]; rfl)) rfl (Pu.refl _)
    · intro a' w' hs hp he
      try simp [Is, Region.binds] at he
      exact op_val rfl (wanted_none rfl) (by first | (go_simp; done) | (go_simp; rfl) | (simp [execOp, Act.eval, go_sem, *]; done) | (simp [execOp, Act.eval, go_sem, *]; rfl)) rfl (Pu.refl _)
    · intro a' w' hs hp he
      try simp [Is, Region.binds] at he
      exact op_val rfl (wanted_none rfl) (by first | (go_simp; done) | (go_simp; rfl) | (simp [execOp, Act.eval, go_sem, *]; done) | (simp [execOp, Act.eval, go_sem, *]; rfl)) rfl (Pu.refl _)
  case hend =>
    intro a' w' hdef hsz hs hp hall
    obtain ⟨r0, r1, r2, r3, r4, r5, r6, r7, r8, r9, r10, r11, r12, r13, -⟩ := hall
    have hA := agree_done (agree_step (agree_step (agree_step (agree_step (agree_step (agree_step (agree_step (agree_step (agree_step (agree_step (agree_step (agree_step (agree_step (agree_step (agree_init [30, 31, 32, 33, 34, 35, 36, 37, 38, 39, 40, 41, 8, 9] hsz hs (by kernel_rfl)) r0) r1) r2) r3) r4) r5) r6) r7) r8) r9) r10) r11) r12) r13)
    have ha := act_of hA hdef
    rw [ha]
    clear ha hA hs hsz hdef r0 r1 r2 r3 r4 r5 r6 r7 r8 r9 r10 r11 r12 r13 
    (try simp only [List.setIfInBounds_toArray])
    (try dsimp only [List.set_cons_zero, List.set_cons_succ])
    (try simp only [Exit.then])
    go_wp2_with fail
    go_ret2
    exact ⟨by rw [HFIN.out]; rfl, Pu.trans hpu hp⟩
theorem boxTagF_no (key nonce hidden more : Bs) (h : fineL key nonce = false) (w : World) :
    Calls Tryz.prog 32 #[S key, S nonce, S hidden, S more] w fun e w' => e = .returned (.tuple #[S [], .bool false]) ∧ w' = w := by
  have hB := fun w => streamBlock_no key nonce 0 h w
  rw [show ((0 : Nat) : Int) = 0 from rfl] at hB
  have HB := Lib.hid hB
  clear h hB
  go_enter Tryz.func32, Tryz.ntmps32
  go_wp2_with (go_at_call 61; refine (HB.out _).mono ?_; rintro e w1 ⟨rfl, hw1⟩; subst w1)
  go_ret2
  exact ⟨rfl, rfl⟩
set_option maxHeartbeats 1600000 in
theorem sealYes (key nonce plain more : Bs) (h : fineL key nonce = true) (hh : plain.length ≤ 90000) (hm : more.length ≤ 100000) (w : World) :
    Calls Tryz.prog 15 #[S key, S nonce, S plain, S more] w fun e w' => e = .returned (.tuple #[S (sealL key nonce plain more), .bool true]) ∧ Pu w w' := by
  have hX := fun w => streamXor key nonce plain 1 h (by omega) (by omega) w
  rw [show ((1 : Nat) : Int) = 1 from rfl] at hX
  have hcl := streamL_length key 1 nonce plain
  obtain ⟨c, hc⟩ : ∃ l, l = streamL key 1 nonce plain := ⟨_, rfl⟩
  rw [← hc] at hX hcl
  have hT := fun w => boxTagF key nonce c more h (by omega) hm w
  have htl := boxTag_length key nonce c more
  obtain ⟨t, ht⟩ : ∃ l, l = boxTag key nonce c more := ⟨_, rfl⟩
  rw [← ht] at hT htl
  have hfin : sealL key nonce plain more = c ++ t := by rw [ht, hc]; rfl
  have z1 : ¬ (9223372036854775807 < c.length + t.length) := by omega
  have z2 : ¬ (9223372036854775807 < plain.length + 16) := by omega
  have HX := Lib.hid hX
  have HT := Lib.hid hT
  have HF := Lib.hid hfin
  clear h hX hT hfin hc ht
  go_enter Tryz.func15, Tryz.ntmps15
  go_wp2_with (first
    | (go_at_call 31; refine (HX.out _).mono ?_; rintro e w1 ⟨rfl, hp1⟩)
    | (go_at_call 32; refine (HT.out _).mono ?_; rintro e w2 ⟨rfl, hp2⟩))
  go_ret2
  exact ⟨by rw [HF.out]; rfl, Pu.trans hp1 hp2⟩
theorem sealNo (key nonce plain more : Bs) (h : fineL key nonce = false) (w : World) :
    Calls Tryz.prog 15 #[S key, S nonce, S plain, S more] w fun e w' => e = .returned (.tuple #[S [], .bool false]) ∧ w' = w := by
  have hX := fun w => streamXor_no key nonce plain 1 h w
  rw [show ((1 : Nat) : Int) = 1 from rfl] at hX
  have HX := Lib.hid hX
  clear h hX
  go_enter Tryz.func15, Tryz.ntmps15
  go_wp2_with (go_at_call 31; refine (HX.out _).mono ?_; rintro e w1 ⟨rfl, hw1⟩; subst w1)
  go_ret2
  exact ⟨rfl, rfl⟩
set_option maxRecDepth 100000 in
theorem addI32 (a : Addr) (x : Int) (w : World) (hx : 0 ≤ x ∧ x < 1000000000) (hc : w.cell? a = some (.int .i32 x)) (hz : w.frozen? a = false) :
    Calls Tryz.prog 75 #[.pointer (some a), .int .i32 1] w fun e w' => e = .returned (.int .i32 (x + 1)) ∧ w' = w.setCell a (.int .i32 (x + 1)) := by
  have hs : (Op.intArith .add .i32 x 1).run Tryz.prog w = .ok (.int .i32 (x + 1)) w := by
    have : IntKind.i32.wrap (x + 1) = x + 1 := by rw [IntKind.wrap_i32]; omega
    show (Sem.pure (Value.int .i32 (IntKind.i32.wrap (x + 1)))).run _ w = _
    rw [this]; rfl
  have hadd := run_call_add (P := Tryz.prog) Tryz.func106 (by kernel_rfl) (by kernel_rfl) (by kernel_rfl) .i32 (by kernel_rfl) (y := 1) hc hz hs
  go_enter Tryz.func75, Tryz.ntmps75
  go_wp2_with fail
  go_ret
  exact ⟨rfl, rfl⟩
set_option maxRecDepth 100000 in
theorem loadI32 (a : Addr) (x : Int) (w : World) (hc : w.cell? a = some (.int .i32 x)) :
    Calls Tryz.prog 77 #[.pointer (some a)] w fun e w' => e = .returned (.int .i32 x) ∧ w' = w := by
  have hl := run_call_load (P := Tryz.prog) Tryz.func107 (by kernel_rfl) (by kernel_rfl) (by kernel_rfl) .i32 (by kernel_rfl) hc
  go_enter Tryz.func77, Tryz.ntmps77
  go_wp2_with fail
  go_ret
  exact ⟨rfl, rfl⟩
end Go.Proofs.YtfbnaemnblannaaGreat
set_option linter.unusedSimpArgs false
set_option linter.unusedVariables false
namespace Go.Esc
open Go Go.RowKit
theorem sealR_yes {key nonce : Bs} (plain more : Bs) (h : fineL key nonce = true) : sealR key nonce plain more = (sealL key nonce plain more, true) := by rw [sealR, if_pos h]
theorem sealR_no {key nonce : Bs} (plain more : Bs) (h : fineL key nonce = false) : sealR key nonce plain more = ([], false) := by rw [sealR, h]; rfl
theorem openR_short (key nonce : Bs) {b : Bs} (more : Bs) (h : b.length < 16) : openR key nonce b more = ([], false) := by
  rw [openR, if_neg]
  simp; omega
theorem openR_no {key nonce : Bs} (b more : Bs) (h : fineL key nonce = false) : openR key nonce b more = ([], false) := by rw [openR, h]; rfl
theorem openR_bad {key nonce : Bs} {b more : Bs} (h : boxTag key nonce (b.take (b.length - 16)) more ≠ b.drop (b.length - 16)) : openR key nonce b more = ([], false) := by
  rw [openR, if_neg]
  simp [h]
theorem openR_yes {key nonce : Bs} {b more : Bs} (hf : fineL key nonce = true) (hl : 16 ≤ b.length) (h : boxTag key nonce (b.take (b.length - 16)) more = b.drop (b.length - 16)) : openR key nonce b more = (streamL key 1 nonce (b.take (b.length - 16)), true) := by
  rw [openR, if_pos]
  simp [h, hf, hl]
end Go.Esc
namespace Go.Proofs.YtfbnaemnblannaaGreat
open Go.RowKit Go.Esc
def rb (r : Bs × Bool) : Value := .tuple #[S r.1, .bool r.2]
theorem boxSeal (key nonce plain more : Bs) (hh : plain.length ≤ 90000) (hm : more.length ≤ 100000) (w : World) :
    Calls Tryz.prog 15 #[S key, S nonce, S plain, S more] w fun e w' => e = .returned (rb (sealR key nonce plain more)) ∧ Pu w w' := by
  cases h : fineL key nonce with
  | true => rw [sealR_yes _ _ h]; exact sealYes key nonce plain more h hh hm w
  | false =>
    rw [sealR_no _ _ h]
    refine (sealNo key nonce plain more h w).mono ?_
    rintro e w' ⟨rfl, rfl⟩; exact ⟨rfl, Pu.refl _⟩
theorem sameYes (a b : Bs) (h : a.length ≤ 1000000) (hab : a = b) (w : World) :
    Calls Tryz.prog 76 #[S a, S b] w fun e w' => e = .returned (.bool true) ∧ Pu w w' := by
  subst hab
  have := same a a h h w
  rwa [decide_eq_true rfl] at this
theorem sameNo (a b : Bs) (h : a.length ≤ 1000000) (h2 : b.length ≤ 1000000) (hab : a ≠ b) (w : World) :
    Calls Tryz.prog 76 #[S a, S b] w fun e w' => e = .returned (.bool false) ∧ Pu w w' := by
  have := same a b h h2 w
  rwa [decide_eq_false hab] at this
set_option maxRecDepth 100000 in
set_option maxHeartbeats 3200000 in
theorem boxOpen (key nonce b more : Bs) (hh : b.length ≤ 90000) (hm : more.length ≤ 100000) (w : World) :
    Calls Tryz.prog 46 #[S key, S nonce, S b, S more] w fun e w' => e = .returned (rb (openR key nonce b more)) ∧ Pu w w' := by
  by_cases h16 : b.length < 16
  · rw [openR_short key nonce more h16]
    have q1 : IntKind.i64.wrap ((b.length : Int) - 16) = b.length - 16 := by rw [IntKind.wrap_i64]; omega
    have q2 : (b.length : Int) - 16 < 0 := by omega
    go_enter Tryz.func46, Tryz.ntmps46
    go_wp2_with fail
    go_ret2
    exact ⟨rfl, (Pu.refl w).alloc _⟩
  obtain ⟨at', hat⟩ : ∃ n : Nat, n = b.length - 16 := ⟨_, rfl⟩
  have q2 : (b.length : Int) - 16 = at' := by omega
  have q2w : IntKind.i64.wrap (at' : Int) = at' := by rw [IntKind.wrap_i64]; omega
  have q3 : decide ((at' : Int) < 0) = false := by simp
  have q4 : (0 : Int) ≤ at' := by omega
  have q5 : (at' : Int) ≤ b.length := by omega
  have q6 : b.take b.length = b := List.take_length
  have hdl : (b.drop at').length = 16 := by simp; omega
  have hr0 := Row.newAt w w.heap.size #[.int .i32 0] 118 (xs := [.int .i32 0]) rfl rfl
  have hp0 : Pu w (w.alloc (.cells #[.int .i32 0] 118)) := Pu.alloc (Pu.refl w) _
  cases hf : fineL key nonce with
  | false =>
    rw [openR_no b more hf]
    have hT := fun w => boxTagF_no key nonce (b.take at') more hf w
    have hS := fun w => sameNo [] (b.drop at') (by simp) (by omega) (by intro h; rw [← h] at hdl; simp at hdl) w
    have HT := Lib.hid hT
    have HS := Lib.hid hS
    have HAT := Lib.hid hat
    have kem : (ByteArray.mk #[]) = bs [] := rfl
    have d0 : 0 ≤ (0 : Int) ∧ (0 : Int) < 1000000000 := by decide
    have c0 : (w.alloc (.cells #[.int .i32 0] 118)).cell? ⟨w.heap.size, 0, none⟩ = some (.int .i32 0) := hr0.cell 0 (by simp)
    have f0 : (w.alloc (.cells #[.int .i32 0] 118)).frozen? ⟨w.heap.size, 0, none⟩ = false := hr0.frozen 0 (by simp)
    clear hf hT hS hat
    go_enter Tryz.func46, Tryz.ntmps46
    go_wp2_with (first
      | (go_at_call 32; refine (HT.out _).mono ?_; rintro e w1 ⟨rfl, hw1⟩; subst w1)
      | (go_at_call 76; refine (HS.out _).mono ?_; rintro e w2 ⟨rfl, hp2⟩; have hr2 := (Row.newAt w w.heap.size #[.int .i32 1] 118 (xs := [.int .i32 1]) rfl rfl).pu hp2; have hb2 := Pu.trans (Pu.alloc (Pu.refl w) _) hp2)
      | (go_at_call 75; first
         | (with_reducible refine (addI32 ⟨w.heap.size, 0, none⟩ 0 _ d0 c0 f0).mono ?_
            rintro e w3 ⟨rfl, hw3⟩; subst w3)
         | (refine (addI32 ⟨w.heap.size, 0, none⟩ 1 _ (by decide) (hr2.cell 0 (by simp)) (hr2.frozen 0 (by simp))).mono ?_
            rintro e w4 ⟨rfl, hw4⟩; subst w4; have hr3 := hr2.set 0 (.int .i32 (1 + 1)); have hb3 := hb2.setCell (p := ⟨w.heap.size, 0, none⟩) (Nat.le_refl _) (.int .i32 (1 + 1)); clear hr2 hb2))
      | (go_at_call 77; refine (loadI32 ⟨w.heap.size, 0, none⟩ (1 + 1) _ (hr3.cell 0 (by simp))).mono ?_; rintro e w5 ⟨rfl, hw5⟩; subst w5))
    go_ret2
    exact ⟨rfl, hb3⟩
  | true =>
    have hT := fun w => boxTagF key nonce (b.take at') more hf (by simp; omega) hm w
    have htl := boxTag_length key nonce (b.take at') more
    by_cases htg : boxTag key nonce (b.take at') more = b.drop at'
    · rw [openR_yes hf (by omega) (by rw [← hat]; exact htg), ← hat]
      have hX := fun w => streamXor key nonce (b.take at') 1 hf (by omega) (by simp; omega) w
      rw [show ((1 : Nat) : Int) = 1 from rfl] at hX
      rw [htg] at hT
      have hS := fun w => sameYes (b.drop at') (b.drop at') (by omega) rfl w
      obtain ⟨t, ht⟩ : ∃ t, t = b.drop at' := ⟨_, rfl⟩
      have ht' : b.drop at' = t := ht.symm
      rw [ht'] at hT hS
      obtain ⟨c, hc⟩ : ∃ t, t = streamL key 1 nonce (b.take at') := ⟨_, rfl⟩
      rw [← hc] at hX ⊢
      have HT := Lib.hid hT
      have HS := Lib.hid hS
      have HX := Lib.hid hX
      have HAT := Lib.hid hat
      clear hf hT hS hat htg htl hX ht hc hdl
      go_enter Tryz.func46, Tryz.ntmps46
      go_wp2_with (first
        | (go_at_call 32; refine (HT.out _).mono ?_; rintro e w1 ⟨rfl, hp1⟩; have hr1 := hr0.pu hp1; have hb1 := Pu.trans hp0 hp1; clear hr0 hp0)
        | (go_at_call 76; refine (HS.out _).mono ?_; rintro e w2 ⟨rfl, hp2⟩; have hr2 := hr1.pu hp2; have hb2 := Pu.trans hb1 hp2; clear hr1 hb1)
        | (go_at_call 77; refine (loadI32 ⟨w.heap.size, 0, none⟩ 0 _ (hr2.cell 0 (by simp))).mono ?_; rintro e w5 ⟨rfl, hw5⟩; subst w5)
        | (go_at_call 31; refine (HX.out _).mono ?_; rintro e w6 ⟨rfl, hp6⟩))
      go_ret2
      exact ⟨rfl, Pu.trans hb2 hp6⟩
    · rw [openR_bad (by rw [← hat]; exact htg)]
      have hS := fun w => sameNo (boxTag key nonce (b.take at') more) (b.drop at') (by omega) (by omega) htg w
      obtain ⟨t, ht⟩ : ∃ t, t = boxTag key nonce (b.take at') more := ⟨_, rfl⟩
      rw [← ht] at hT hS
      have HT := Lib.hid hT
      have HS := Lib.hid hS
      have HAT := Lib.hid hat
      clear hf hT hS hat htg htl ht hdl
      go_enter Tryz.func46, Tryz.ntmps46
      go_wp2_with (first
        | (go_at_call 32; refine (HT.out _).mono ?_; rintro e w1 ⟨rfl, hp1⟩; have hr1 := hr0.pu hp1; have hb1 := Pu.trans hp0 hp1; clear hr0 hp0)
        | (go_at_call 76; refine (HS.out _).mono ?_; rintro e w2 ⟨rfl, hp2⟩; have hr2 := hr1.pu hp2; have hb2 := Pu.trans hb1 hp2; clear hr1 hb1)
        | (go_at_call 75; refine (addI32 ⟨w.heap.size, 0, none⟩ 0 _ (by decide) (hr2.cell 0 (by simp)) (hr2.frozen 0 (by simp))).mono ?_
           rintro e w3 ⟨rfl, hw3⟩; subst w3; have hr3 := hr2.set 0 (.int .i32 (0 + 1)); have hb3 := hb2.setCell (p := ⟨w.heap.size, 0, none⟩) (Nat.le_refl _) (.int .i32 (0 + 1)); clear hr2 hb2)
        | (go_at_call 77; refine (loadI32 ⟨w.heap.size, 0, none⟩ (0 + 1) _ (hr3.cell 0 (by simp))).mono ?_; rintro e w5 ⟨rfl, hw5⟩; subst w5))
      go_ret2
      exact ⟨rfl, hb3⟩
end Go.Proofs.YtfbnaemnblannaaGreat
set_option linter.unusedSimpArgs false
set_option linter.unusedVariables false
namespace Go.Proofs.YtfbnaemnblannaaGreat
open Go.RowKit Go.Esc
theorem Turns.cg {G H : Nat → Prop} {w w' : World} {tb mb : Nat} {key : Bs} {m : Nat} (h : Turns G w tb mb key m) (hp : Cg H w w') (ht : G tb) (hm : G mb) (hd : ∀ g, H g → ¬ G g) : Turns G w' tb mb key m := by
  obtain ⟨f, c, h1, h2, h3, h4⟩ := h
  refine ⟨f, c, hp.row h1 (fun e => hd _ e ht), h2.other (hp.block mb h2.lt (fun e => hd _ e hm)), h3, fun e v he => ?_⟩
  obtain ⟨x, hx, hg, hr⟩ := h4 e v he
  exact ⟨x, hx, hg, hp.row hr (fun e => hd _ e hg)⟩
theorem Turns.mono {G H : Nat → Prop} {w : World} {tb mb : Nat} {key : Bs} {m : Nat} (h : Turns G w tb mb key m) (hd : ∀ g, G g → H g) : Turns H w tb mb key m := by
  obtain ⟨f, c, h1, h2, h3, h4⟩ := h
  refine ⟨f, c, h1, h2, h3, fun e v he => ?_⟩
  obtain ⟨x, hx, hg, hr⟩ := h4 e v he
  exact ⟨x, hx, hd _ hg, hr⟩
/-- An Out: the next number is n; m: how often a key was asked for at most. -/
structure OutAt (G : Nat → Prop) (w : World) (ob : Nat) (key : Bs) (m n : Nat) : Prop where
  has : ∃ tb mb, Row w ob 49 [.pointer (some ⟨tb, 0, none⟩), .int .i64 (n : Int)] ∧ Turns G w tb mb key m ∧ G tb ∧ G mb
  here : G ob
  dom : ∀ g, G g → g < w.heap.size
theorem OutAt.cg {G H : Nat → Prop} {w w' : World} {ob : Nat} {key : Bs} {m n : Nat} (h : OutAt G w ob key m n) (hp : Cg H w w') (hd : ∀ g, H g → ¬ G g) : OutAt G w' ob key m n := by
  obtain ⟨⟨tb, mb, h1, h2, h3, h4⟩, h5, h6⟩ := h
  exact ⟨⟨tb, mb, hp.row h1 (fun e => hd _ e h5), h2.cg hp h3 h4 hd, h3, h4⟩, h5, fun g hg => Nat.lt_of_lt_of_le (h6 g hg) hp.size⟩
theorem OutAt.pu {G : Nat → Prop} {w w' : World} {ob : Nat} {key : Bs} {m n : Nat} (h : OutAt G w ob key m n) (hp : Pu w w') : OutAt G w' ob key m n :=
  h.cg (H := fun _ => False) (Cg.ofPu hp) (fun _ h => h.elim)
theorem Gw.dom {G : Nat → Prop} {w w' : World} (hd : ∀ g, G g → g < w.heap.size) (hs : w.heap.size ≤ w'.heap.size) : ∀ g, Gw G w w' g → g < w'.heap.size := fun g hg => by
  rcases hg with h | h
  · exact Nat.lt_of_lt_of_le (hd g h) hs
  · exact h.2
set_option maxRecDepth 100000 in
theorem newOut_no (key : Bs) (hk : key.length ≠ 32) (hm : key.length ≤ 140737488351232) (w : World) :
    Calls Tryz.prog 6 #[S key] w fun e w' => e = .returned (.pointer none) ∧ w' = w := by
  have hk' : ((key.length : Int) == 32) = false := by simp; omega
  have hk2 : ¬ (key.length : Int) = 32 := by omega
  go_enter Tryz.func6, Tryz.ntmps6
  go_wp2_with fail
  go_ret
  exact ⟨rfl, rfl⟩
set_option maxRecDepth 100000 in
theorem newOut (key : Bs) (hk : key.length = 32) (w : World) :
    Calls Tryz.prog 6 #[S key] w fun e w' => ∃ ob, e = .returned (.pointer (some ⟨ob, 0, none⟩)) ∧ OutAt (Gw (fun _ => False) w w') w' ob key 0 0 ∧ Pu w w' := by
  have hk' : ((key.length : Int) == 32) = true := by simp; omega
  have hk2 : (key.length : Int) = 32 := by omega
  have hmm := @run_makeMap Tryz.prog
  go_enter Tryz.func6, Tryz.ntmps6
  go_wp2_with fail
  go_ret
  refine ⟨w.heap.size + 1 + 1, rfl, ⟨⟨w.heap.size + 1, w.heap.size, ?_, ⟨fun _ => none, 0, ?_, ?_, Nat.le_refl _, fun e v h => by cases h⟩, .inr ⟨by omega, by simp⟩, .inr ⟨Nat.le_refl _, by simp; omega⟩⟩, .inr ⟨by omega, by simp⟩, Gw.dom (fun _ h => h.elim) (by simp; omega)⟩, (((Pu.refl w).alloc _).trans ((Pu.refl _).alloc _)).trans ((Pu.refl _).alloc _)⟩
  · exact Row.newAt _ _ _ _ (by simp) rfl
  · exact Row.alloc (Row.newAt _ _ _ _ (by simp) rfl) _
  · exact ((MapAt.made w).pu ((Pu.refl _).alloc _)).pu ((Pu.refl _).alloc _)
set_option maxRecDepth 100000 in
theorem outNext {G : Nat → Prop} {w : World} {ob : Nat} {key : Bs} {m n : Nat} (h : OutAt G w ob key m n) :
    Calls Tryz.prog 13 #[.pointer (some ⟨ob, 0, none⟩)] w fun e w' => e = .returned (.int .i64 (n : Int)) ∧ w' = w := by
  obtain ⟨⟨tb, mb, h1, -, -, -⟩, -, -⟩ := h
  have c1 := h1.cell 1 (by simp)
  simp at c1
  go_enter Tryz.func13, Tryz.ntmps13
  go_wp2_with (go_at_call 28; refine (load64 _ _ _ c1).mono ?_; rintro e w1 ⟨rfl, rfl⟩)
  go_ret
  exact ⟨rfl, rfl⟩
set_option maxRecDepth 100000 in
theorem sealLarge {G : Nat → Prop} {w : World} {ob : Nat} {key : Bs} {m n : Nat} (h : OutAt G w ob key m n) (plain : Bs) (hl : plain.length ≤ 140737488351232) (hp : padL plain = none) :
    Calls Tryz.prog 8 #[.pointer (some ⟨ob, 0, none⟩), S plain] w fun e w' => e = .returned (.tuple #[S [], .int .i64 13]) ∧ Pu w w' := by
  have hP := fun w => pad plain w hl
  rw [hp] at hP
  have HP := Lib.hid hP
  have H := Lib.hid h
  obtain ⟨⟨tb, mb, h1, -, -, -⟩, -, -⟩ := h
  have c0 := h1.cell 0 (by simp)
  simp at c0
  clear hP h1 hp
  go_enter Tryz.func8, Tryz.ntmps8
  go_wp2_with (first
    | (go_at_call 12; refine (HP.out _).mono ?_; rintro e w1 ⟨rfl, hp1⟩)
    | (go_at_call 13; refine (outNext (H.out.pu hp1)).mono ?_; rintro e w2 ⟨rfl, rfl⟩))
  go_ret2
  exact ⟨rfl, hp1⟩
set_option maxRecDepth 100000 in
theorem sealEnd {G : Nat → Prop} {w : World} {ob : Nat} {key : Bs} {m n : Nat} (h : OutAt G w ob key m n) (plain p : Bs) (hl : plain.length ≤ 140737488351232) (hp : padL plain = some p) (hn : 400 ≤ n) :
    Calls Tryz.prog 8 #[.pointer (some ⟨ob, 0, none⟩), S plain] w fun e w' => e = .returned (.tuple #[S [], .int .i64 5]) ∧ Pu w w' := by
  have hP := fun w => pad plain w hl
  rw [hp] at hP
  have HP := Lib.hid hP
  have H := Lib.hid h
  obtain ⟨⟨tb, mb, h1, -, -, -⟩, -, -⟩ := h
  have c0 := h1.cell 0 (by simp)
  simp at c0
  have hn' : (400 : Int) ≤ n := by omega
  clear hP h1 hp
  go_enter Tryz.func8, Tryz.ntmps8
  go_wp2_with (first
    | (go_at_call 12; refine (HP.out _).mono ?_; rintro e w1 ⟨rfl, hp1⟩)
    | (go_at_call 13; refine (outNext (H.out.pu hp1)).mono ?_; rintro e w2 ⟨rfl, rfl⟩))
  go_ret2
  exact ⟨rfl, hp1⟩
theorem padL_le {b p : Bs} (h : padL b = some p) : p.length ≤ 2048 := by
  unfold padL at h
  cases hs : padSize (b.length : Int) with
  | none => rw [hs] at h; cases h
  | some s =>
    rw [hs] at h
    simp only [Option.map_some, Option.some.injEq] at h
    have := padSize_some hs
    rw [← h]
    simp [putB_length]
    omega
set_option maxRecDepth 100000 in
set_option maxHeartbeats 1600000 in
theorem sealOk {G : Nat → Prop} {w : World} {ob : Nat} {key : Bs} {m n : Nat} (h : OutAt G w ob key m n) (hk : key.length = 32) (plain p : Bs) (hl : plain.length ≤ 140737488351232) (hp : padL plain = some p) (hn : n < 400) (hm : m ≤ 100000) :
    Calls Tryz.prog 8 #[.pointer (some ⟨ob, 0, none⟩), S plain] w fun e w' => e = .returned (.tuple #[S (recL key n plain), .int .i64 0]) ∧ OutAt (Gw G w w') w' ob key (m+1) (n+1) ∧ Cg G w w' := by
  have hpl := padL_le hp
  have hP := fun w => pad plain w hl
  rw [hp] at hP
  have hB := fun w => putBig (n : Int) 8 w (by omega) (by decide) (by decide)
  have hN := fun w => nonce n (by omega) w
  have hS := fun w => boxSeal (turnL key (n / 8)) (nonceL n) p (putB n 8) (by omega) (by simp [putB_length]) w
  rw [sealR_yes _ _ (fine_turn key (n / 8) n hk)] at hS
  simp only [rb] at hS
  have hrec : recL key n plain = putB n 8 ++ sealL (turnL key (n / 8)) (nonceL n) p (putB n 8) := by rw [recL, hp]; rfl
  rw [hrec]
  obtain ⟨k, hkk⟩ : ∃ k, k = turnL key (n / 8) := ⟨_, rfl⟩
  obtain ⟨hd, hhd⟩ : ∃ hd, hd = putB n 8 := ⟨_, rfl⟩
  obtain ⟨no, hno⟩ : ∃ no, no = nonceL n := ⟨_, rfl⟩
  rw [show ((n : Int)).toNat = n from rfl, show ((8 : Int)).toNat = 8 from rfl, ← hhd] at hB
  rw [← hkk, ← hno, ← hhd] at hS ⊢
  obtain ⟨bx, hbx⟩ : ∃ bx, bx = sealL k no p hd := ⟨_, rfl⟩
  rw [← hbx] at hS ⊢
  rw [← hno] at hN
  have H := Lib.hid h
  obtain ⟨⟨tb, mb, h1, h2, h3, h4⟩, h5, h6⟩ := h
  have hT := fun w' (hp : Pu w w') => turnsAt G tb mb key m n w' (h2.pu hp) hk (by omega) hm
  rw [← hkk] at hT
  have c0 := h1.cell 0 (by simp)
  simp at c0
  have hn' : (n : Int) < 400 := by omega
  have hz9 : ¬ (9223372036854775807 < hd.length + bx.length) := by rw [hhd, hbx, sealL_length, putB_length]; omega
  have HP := Lib.hid hP
  have HB := Lib.hid hB
  have HN := Lib.hid hN
  have HS := Lib.hid hS
  have HT := Lib.hid hT
  clear hP hB hN hS hT hrec hkk hhd hno hbx hp
  go_enter Tryz.func8, Tryz.ntmps8
  go_wp2_with (first
    | (go_at_call 12; refine (HP.out _).mono ?_; rintro e w1 ⟨rfl, hp1⟩)
    | (go_at_call 13; refine (outNext (H.out.pu hp1)).mono ?_; rintro e w2 ⟨rfl, rfl⟩)
    | (go_at_call 14; refine (HB.out _).mono ?_; rintro e w3 ⟨rfl, hp3⟩; have hp13 := hp1.trans hp3; have c03 := (h1.pu hp13).cell 0 (by simp); simp at c03)
    | (go_at_call 16; refine (HT.out _ hp13).mono ?_; rintro e w4 ⟨rfl, ht4, hb4⟩)
    | (go_at_call 17; refine (HN.out _).mono ?_; rintro e w5 ⟨rfl, hp5⟩)
    | (go_at_call 15; refine (HS.out _).mono ?_; rintro e w6 ⟨rfl, hp6⟩
       have hmo : mb ≠ ob := (by obtain ⟨f, c, -, hmm, -⟩ := h2; exact hmm.ne h1)
       have h16 := (hb4.row (h1.pu hp13) (by omega)).pu (hp5.trans hp6)
       have c16 := h16.cell 1 (by simp)
       have f16 := h16.frozen 1 (by simp)
       simp at c16)
    | (go_at_call 18; refine (add64 _ _ _ (by omega) c16 f16).mono ?_; rintro e w7 ⟨rfl, rfl⟩))
  go_ret2
  have hcg : Cg G w (w6.setCell ⟨ob, 1, none⟩ (.int .i64 ((n : Int) + 1))) := by
    refine (((Cg.ofPu (G := G) hp13).andThen (H := G) (Cg.ofBut hb4 h4) (fun g hg => .inl hg)).pu (hp5.trans hp6)).andThen (H := G) (Cg.ofBut (But.set _ _ _) h5) (fun g hg => .inl hg)
  have hin : ∀ g, Gw G w3 w4 g → Gw G w (w6.setCell ⟨ob, 1, none⟩ (.int .i64 ((n : Int) + 1))) g := fun g hg => by
    rcases hg with h | h
    · exact .inl h
    · refine .inr ⟨Nat.le_trans hp13.size h.1, ?_⟩
      have := (hp5.trans hp6).size
      simp; omega
  refine ⟨rfl, ⟨⟨tb, mb, ?_, ?_, .inl h3, .inl h4⟩, .inl h5, Gw.dom h6 hcg.size⟩, hcg⟩
  · have := h16.set 1 (.int .i64 ((n : Int) + 1))
    simpa using this
  · refine Turns.mono ?_ hin
    have ht6 := ht4.pu (hp5.trans hp6)
    obtain ⟨f, c, t1, t2, t3, t4⟩ := ht6
    refine ⟨f, c, t1.setOther _ _ ((Row.ne t1 h16 (by decide))), t2.other (Below.heap_setCell _ _ _ _ (t2.ne h16)), t3, fun e v he => ?_⟩
    obtain ⟨x, hx, hg, hr⟩ := t4 e v he
    exact ⟨x, hx, hg, hr.setOther _ _ (Row.ne hr h16 (by decide))⟩
end Go.Proofs.YtfbnaemnblannaaGreat
