/- Chapter 12: RatchetNonces. -/
import Derived.Test.YtdjbhbefghihcaaLaw12
import Derived.Deep.OwnRows
set_option linter.unusedSimpArgs false
set_option linter.unusedVariables false
namespace Go.Esc
open Go Go.RowKit
theorem putB_congr (n : Nat) : ∀ x y : Nat, x % 256 ^ n = y % 256 ^ n → putB x n = putB y n := by
  induction n with
  | zero => intro _ _ _; rfl
  | succ n ih =>
    intro x y h
    rw [Nat.pow_succ] at h
    have h1 : x / 256 ^ n % 256 = y / 256 ^ n % 256 := by
      rw [← Nat.mod_mul_right_div_self, ← Nat.mod_mul_right_div_self, h]
    have h2 : x % 256 ^ n = y % 256 ^ n := by
      rw [← Nat.mod_mul_right_mod x (256 ^ n) 256, ← Nat.mod_mul_right_mod y (256 ^ n) 256, h]
    rw [putB, putB, ih x y h2]
    congr 1
    apply UInt8.toNat_inj.1
    simpa using h1
theorem less_putB (n : Nat) : ∀ v u : Nat, v < u → u < 256 ^ n → Op.bytesLess (putB v n) (putB u n) = true := by
  induction n with
  | zero => intro v u h1 h2; simp at h2; omega
  | succ n ih =>
    intro v u h1 h2
    have hp : 0 < 256 ^ n := Nat.pow_pos (by decide)
    rw [Nat.pow_succ] at h2
    have hu : u / 256 ^ n < 256 := Nat.div_lt_of_lt_mul h2
    have hv : v / 256 ^ n < 256 := Nat.lt_of_le_of_lt (Nat.div_le_div_right (Nat.le_of_lt h1)) hu
    rw [putB, putB, Op.bytesLess]
    have hle : v / 256 ^ n ≤ u / 256 ^ n := Nat.div_le_div_right (Nat.le_of_lt h1)
    by_cases he : v / 256 ^ n = u / 256 ^ n
    · have hm : v % 256 ^ n < u % 256 ^ n := by
        have e1 := Nat.div_add_mod v (256 ^ n)
        have e2 := Nat.div_add_mod u (256 ^ n)
        rw [he] at e1
        omega
      have h3 := ih (v % 256 ^ n) (u % 256 ^ n) hm (Nat.mod_lt _ hp)
      rw [putB_congr n (v % 256 ^ n) v (Nat.mod_mod _ _), putB_congr n (u % 256 ^ n) u (Nat.mod_mod _ _)] at h3
      rw [he, h3]; simp
    · have hlt : UInt8.ofNat (v / 256 ^ n) < UInt8.ofNat (u / 256 ^ n) := by
        rw [UInt8.lt_iff_toNat_lt]
        simp
        rw [Nat.mod_eq_of_lt hv, Nat.mod_eq_of_lt hu]; omega
      simp [hlt]
theorem less_nonceL {a b : Nat} (h : a < b) (hb : b < 18446744073709551616) : Op.bytesLess (nonceL a) (nonceL b) = true := by
  have := less_putB 8 a b h (by omega)
  simp only [nonceL, List.replicate_succ, List.replicate_zero, List.cons_append, List.nil_append, Op.bytesLess, this]
  decide
end Go.Esc
namespace Go.Proofs.Ytdjbhbefghihcaa
open Go.RowKit Go.Esc
set_option maxRecDepth 100000 in
set_option maxHeartbeats 3200000 in
theorem ratchetNonces_walk (a : Int) (ha : (Lit.int .i64 a).wf = true) (b : Int) (hb : (Lit.int .i64 b).wf = true) (w : World) :
    Calls Try.prog 32 #[.int .i64 a, .int .i64 b] w fun e w' => e = .returned (.bool true) ∧ Pu w w' := by
  have hb2 : b < 9223372036854775808 := by have := bnd64 hb; omega
  by_cases g1 : a < 0
  · skip
    go_enter Try.func32, Try.ntmps32
    go_wp2_with (go_at_call 66; refine (alive12 _).mono ?_; rintro e w1 ⟨rfl, hp1⟩)
    go_ret
    exact ⟨rfl, hp1⟩
  have q1 : decide (a < 0) = false := by simp; omega
  by_cases g2 : b ≤ a
  · skip
    go_enter Try.func32, Try.ntmps32
    go_wp2_with (go_at_call 66; refine (alive12 _).mono ?_; rintro e w1 ⟨rfl, hp1⟩)
    go_ret
    exact ⟨rfl, hp1⟩
  have q2 : decide (b ≤ a) = false := by simp; omega
  obtain ⟨x, rfl⟩ := Int.eq_ofNat_of_zero_le (by omega : 0 ≤ a)
  obtain ⟨y, rfl⟩ := Int.eq_ofNat_of_zero_le (by omega : 0 ≤ b)
  have hmk : ∀ w, (Instr.makeSlice 27 (.int .i64 4) (.int .i64 4)).run Try.prog w = .ok (.slice (some ⟨w.heap.size, 0, none⟩) 4 4) (w.alloc (.cells (madeCells #[.int .u8 0] 4) 5)) := run_make_row' (P := Try.prog) 27 5 (.int .u8 0) 1 Try.underlying27 infoB rfl .i64 .i64 4 (by decide) (by decide)
  have hN1 := fun w => nonce x (by omega) w
  have hN2 := fun w => nonce y (by omega) w
  have hN3 := fun w => nonce_no (-1) (by decide) w
  obtain ⟨m, hm⟩ : ∃ m, m = nonceL x := ⟨_, rfl⟩
  obtain ⟨n, hn⟩ : ∃ n, n = nonceL y := ⟨_, rfl⟩
  obtain ⟨zz, hzz⟩ : ∃ z, z = List.replicate 4 (0 : UInt8) := ⟨_, rfl⟩
  have hml : m.length = 12 := by rw [hm]; exact nonceL_length _
  have hnl : n.length = 12 := by rw [hn]; exact nonceL_length _
  have hls : Op.bytesLess m n = true := by rw [hm, hn]; exact less_nonceL (by omega) (by omega)
  have hmt : m.take 4 = zz := by rw [hm, hzz, nonceL]; rfl
  have hzl : zz.length = 4 := by rw [hzz]; simp
  have hemp : (ByteArray.mk #[]) = bs [] := rfl
  rw [← hm] at hN1
  rw [← hn] at hN2
  have HN1 := Lib.hid hN1
  have HN2 := Lib.hid hN2
  have HN3 := Lib.hid hN3
  have HZZ := Lib.hid hzz
  have cN : ∀ args w, (callFunc 67 args).run Try.prog w = .ok (.enter 67 args) w := fun args w => run_callFunc_body Try.func67 (by kernel_rfl) (by kernel_rfl) args w
  clear hN1 hN2 hN3 hm hn hzz
  go_enter Try.func32, Try.ntmps32
  go_wp2_with (first
    | (go_at_call 66; refine (alive12 _).mono ?_; rintro e w1 ⟨rfl, hp1⟩)
    | (go_at_call 67; first
       | (refine (HN1.out _).mono ?_; rintro e w2 ⟨rfl, hp2⟩; clear HN1)
       | (refine (HN2.out _).mono ?_; rintro e w3 ⟨rfl, hp3⟩)))
  apply region_pu (Φs := (Is _ :: Is _ :: Is _ :: Is _ :: Is _ :: Is _ :: Is _ :: Is _ :: Is _ :: Is _ :: Is _ :: Is _ :: Is _ :: Is _ :: Is _ :: Is _ :: IsRow 5 4 (cells zz) :: Is _ :: Is _ :: Is _ :: Is _ :: Is _ :: Is _ :: Is _ :: Is _ :: [])) (hm := by kernel_rfl) (hE := by kernel_rfl) (hD := by kernel_rfl) (hsize := by kernel_rfl)
  case hop =>
    refine ⟨?_, ?_, ?_, ?_, ?_, ?_, ?_, ?_, ?_, ?_, ?_, ?_, ?_, ?_, ?_, ?_, ?_, ?_, ?_, ?_, ?_, ?_, ?_, ?_, ?_, trivial⟩
    · intro a' w' hs hp he
      have e5 := hs 5 (by kernel_rfl)
      try simp [Is, Region.binds] at he
      exact op_val rfl (wanted_none rfl) (by first | (go_simp; done) | (go_simp; rfl) | (simp [execOp, Act.eval, go_sem, *]; done) | (simp [execOp, Act.eval, go_sem, *]; rfl)) rfl (Pu.refl _)
    · intro a' w' hs hp he
      try simp [Is, Region.binds] at he
      exact op_val rfl (wanted_none rfl) (by first | (go_simp; done) | (go_simp; rfl) | (simp [execOp, Act.eval, go_sem, *]; done) | (simp [execOp, Act.eval, go_sem, *]; rfl)) rfl (Pu.refl _)
    · intro a' w' hs hp he
      try simp [Is, Region.binds] at he
      exact op_val rfl (wanted_none rfl) (by first | (go_simp; done) | (go_simp; rfl) | (simp [execOp, Act.eval, go_sem, *]; done) | (simp [execOp, Act.eval, go_sem, *]; rfl)) rfl (Pu.refl _)
    · intro a' w' hs hp he
      try simp [Is, Region.binds] at he
      exact op_val rfl (wanted_none rfl) (by first | (go_simp; done) | (go_simp; rfl) | (simp [execOp, Act.eval, go_sem, *]; done) | (simp [execOp, Act.eval, go_sem, *]; rfl)) rfl (Pu.refl _)
    · intro a' w' hs hp he
      have e6 := hs 6 (by kernel_rfl)
      try simp [Is, Region.binds] at he
      first | exact op_skip rfl ((wanted_some rfl rfl (by first | (simp [he]; done) | (simp [he]; rfl))).trans rfl) rfl | exact op_val rfl ((wanted_some rfl rfl (by first | (simp [he]; done) | (simp [he]; rfl))).trans rfl) (by first | (go_simp; done) | (go_simp; rfl) | (simp [execOp, Act.eval, go_sem, *]; done) | (simp [execOp, Act.eval, go_sem, *]; rfl)) rfl (Pu.refl _)
    · intro a' w' hs hp he
      try simp [Is, Region.binds] at he
      first | exact op_skip rfl ((wanted_some rfl rfl (by first | (simp [he]; done) | (simp [he]; rfl))).trans rfl) rfl | exact op_val rfl ((wanted_some rfl rfl (by first | (simp [he]; done) | (simp [he]; rfl))).trans rfl) (by first | (go_simp; done) | (go_simp; rfl) | (simp [execOp, Act.eval, go_sem, *]; done) | (simp [execOp, Act.eval, go_sem, *]; rfl)) rfl (Pu.refl _)
    · intro a' w' hs hp he
      try simp [Is, Region.binds] at he
      first | exact op_skip rfl ((wanted_some rfl rfl (by first | (simp [he]; done) | (simp [he]; rfl))).trans rfl) rfl | exact op_val rfl ((wanted_some rfl rfl (by first | (simp [he]; done) | (simp [he]; rfl))).trans rfl) (by first | (go_simp; done) | (go_simp; rfl) | (simp [execOp, Act.eval, go_sem, *]; done) | (simp [execOp, Act.eval, go_sem, *]; rfl)) rfl (Pu.refl _)
    · intro a' w' hs hp he
      try simp [Is, Region.binds] at he
      exact op_val rfl (wanted_none rfl) (by first | (go_simp; done) | (go_simp; rfl) | (simp [execOp, Act.eval, go_sem, *]; done) | (simp [execOp, Act.eval, go_sem, *]; rfl)) rfl (Pu.refl _)
    · intro a' w' hs hp he
      try simp [Is, Region.binds] at he
      exact op_val rfl (wanted_none rfl) (by first | (go_simp; done) | (go_simp; rfl) | (simp [execOp, Act.eval, go_sem, *]; done) | (simp [execOp, Act.eval, go_sem, *]; rfl)) rfl (Pu.refl _)
    · intro a' w' hs hp he
      have e5 := hs 5 (by kernel_rfl)
      try simp [Is, Region.binds] at he
      first | exact op_skip rfl ((wanted_some rfl rfl (by first | (simp [he]; done) | (simp [he]; rfl))).trans rfl) rfl | exact op_val rfl ((wanted_some rfl rfl (by first | (simp [he]; done) | (simp [he]; rfl))).trans rfl) (by first | (go_simp; done) | (go_simp; rfl) | (simp [execOp, Act.eval, go_sem, *]; done) | (simp [execOp, Act.eval, go_sem, *]; rfl)) rfl (Pu.refl _)
    · intro a' w' hs hp he
      have e6 := hs 6 (by kernel_rfl)
      try simp [Is, Region.binds] at he
      first | exact op_skip rfl ((wanted_some rfl rfl (by first | (simp [he]; done) | (simp [he]; rfl))).trans rfl) rfl | exact op_val rfl ((wanted_some rfl rfl (by first | (simp [he]; done) | (simp [he]; rfl))).trans rfl) (by first | (go_simp; done) | (go_simp; rfl) | (simp [execOp, Act.eval, go_sem, *]; done) | (simp [execOp, Act.eval, go_sem, *]; rfl)) rfl (Pu.refl _)
    · intro a' w' hs hp he
      try simp [Is, Region.binds] at he
      first | exact op_skip rfl ((wanted_some rfl rfl (by first | (simp [he]; done) | (simp [he]; rfl))).trans rfl) rfl | exact op_val rfl ((wanted_some rfl rfl (by first | (simp [he]; done) | (simp [he]; rfl))).trans rfl) (by first | (go_simp; done) | (go_simp; rfl) | (simp [execOp, Act.eval, go_sem, *]; done) | (simp [execOp, Act.eval, go_sem, *]; rfl)) rfl (Pu.refl _)
    · intro a' w' hs hp he
      try simp [Is, Region.binds] at he
      exact op_val rfl (wanted_none rfl) (by first | (go_simp; done) | (go_simp; rfl) | (simp [execOp, Act.eval, go_sem, *]; done) | (simp [execOp, Act.eval, go_sem, *]; rfl)) rfl (Pu.refl _)
    · intro a' w' hs hp he
      try simp [Is, Region.binds] at he
      exact op_val rfl (wanted_none rfl) (by first | (go_simp; done) | (go_simp; rfl) | (simp [execOp, Act.eval, go_sem, *]; done) | (simp [execOp, Act.eval, go_sem, *]; rfl)) rfl (Pu.refl _)
    · intro a' w' hs hp he
      have e5 := hs 5 (by kernel_rfl)
      try simp [Is, Region.binds] at he
      first | exact op_skip rfl ((wanted_some rfl rfl (by first | (simp [he]; done) | (simp [he]; rfl))).trans rfl) rfl | exact op_val rfl ((wanted_some rfl rfl (by first | (simp [he]; done) | (simp [he]; rfl))).trans rfl) (by first | (go_simp; done) | (go_simp; rfl) | (simp [execOp, Act.eval, go_sem, *]; done) | (simp [execOp, Act.eval, go_sem, *]; rfl)) rfl (Pu.refl _)
    · intro a' w' hs hp he
      try simp [Is, Region.binds] at he
      first | exact op_skip rfl ((wanted_some rfl rfl (by first | (simp [he]; done) | (simp [he]; rfl))).trans rfl) rfl | exact op_val rfl ((wanted_some rfl rfl (by first | (simp [he]; done) | (simp [he]; rfl))).trans rfl) (by first | (go_simp; done) | (go_simp; rfl) | (simp [execOp, Act.eval, go_sem, *]; done) | (simp [execOp, Act.eval, go_sem, *]; rfl)) rfl (Pu.refl _)
    · intro a' w' hs hp he
      try simp [Is, Region.binds] at he
      refine op_val rfl ((wanted_some rfl rfl (by first | (simp [he]; done) | (simp [he]; rfl))).trans rfl) (by go_simp; exact ⟨rfl, rfl⟩) ?_ ((Pu.refl _).alloc _); exact ⟨_, _, rfl, Row.newAt _ _ _ _ rfl (by rw [HZZ.out]; kernel_rfl)⟩
    · intro a' w' hs hp he
      try simp [Is, Region.binds] at he
      obtain ⟨⟨g, cap, hv, hrow⟩, hgd⟩ := he; have hcv := Row.conv (P := Try.prog) (cap := cap) (n := 4) (l := zz) 27 9 hrow hzl.symm Try.underlying27 Try.underlying5 Try.underlying9; exact op_val rfl ((wanted_some rfl rfl (by first | (simp [hgd]; done) | (simp [hgd]; rfl))).trans rfl) (by first | (go_simp; done) | (go_simp; rfl)) rfl (Pu.refl _)
    · intro a' w' hs hp he
      try simp [Is, Region.binds] at he
      first | exact op_skip rfl ((wanted_some rfl rfl (by first | (simp [he]; done) | (simp [he]; rfl))).trans rfl) rfl | exact op_val rfl ((wanted_some rfl rfl (by first | (simp [he]; done) | (simp [he]; rfl))).trans rfl) (by first | (go_simp; done) | (go_simp; rfl) | (simp [execOp, Act.eval, go_sem, *]; done) | (simp [execOp, Act.eval, go_sem, *]; rfl)) rfl (Pu.refl _)
    · intro a' w' hs hp he
      try simp [Is, Region.binds] at he
      exact op_val rfl (wanted_none rfl) (by first | (go_simp; done) | (go_simp; rfl) | (simp [execOp, Act.eval, go_sem, *]; done) | (simp [execOp, Act.eval, go_sem, *]; rfl)) rfl (Pu.refl _)
    · intro a' w' hs hp he
      try simp [Is, Region.binds] at he
      exact op_val rfl (wanted_none rfl) (by first | (go_simp; done) | (go_simp; rfl) | (simp [execOp, Act.eval, go_sem, *]; done) | (simp [execOp, Act.eval, go_sem, *]; rfl)) rfl (Pu.refl _)
    · intro a' w' hs hp he
      try simp [Is, Region.binds] at he
      exact op_callP (HN3.out _) rfl ((wanted_some rfl rfl (by first | (simp [he]; done) | (simp [he]; rfl))).trans rfl) (by first | (go_simp; done) | (go_simp; rfl)) (fun _ => rfl)
    · intro a' w' hs hp he
      try simp [Is, Region.binds] at he
      first | exact op_skip rfl ((wanted_some rfl rfl (by first | (simp [he]; done) | (simp [he]; rfl))).trans rfl) rfl | exact op_val rfl ((wanted_some rfl rfl (by first | (simp [he]; done) | (simp [he]; rfl))).trans rfl) (by first | (go_simp; done) | (go_simp; rfl) | (simp [execOp, Act.eval, go_sem, *]; done) | (simp [execOp, Act.eval, go_sem, *]; rfl)) rfl (Pu.refl _)
    · intro a' w' hs hp he
      try simp [Is, Region.binds] at he
      exact op_val rfl (wanted_none rfl) (by first | (go_simp; done) | (go_simp; rfl) | (simp [execOp, Act.eval, go_sem, *]; done) | (simp [execOp, Act.eval, go_sem, *]; rfl)) rfl (Pu.refl _)
    · intro a' w' hs hp he
      try simp [Is, Region.binds] at he
      exact op_val rfl (wanted_none rfl) (by first | (go_simp; done) | (go_simp; rfl) | (simp [execOp, Act.eval, go_sem, *]; done) | (simp [execOp, Act.eval, go_sem, *]; rfl)) rfl (Pu.refl _)
  case hend =>
    intro a' w' hdef hsz hs hp hall
    obtain ⟨r0, r1, r2, r3, r4, r5, r6, r7, r8, r9, r10, r11, r12, r13, r14, r15, r16, r17, r18, r19, r20, r21, r22, r23, r24, -⟩ := hall
    obtain ⟨g16, cap16, rv16, row16⟩ := r16
    have hA := agree_done (agree_step (agree_step (agree_step (agree_step (agree_step (agree_step (agree_step (agree_step (agree_step (agree_step (agree_step (agree_step (agree_step (agree_step (agree_step (agree_step (agree_step (agree_step (agree_step (agree_step (agree_step (agree_step (agree_step (agree_step (agree_step (agree_init [23, 24, 25, 26, 27, 28, 29, 30, 31, 32, 33, 34, 35, 36, 37, 38, 39, 40, 41, 42, 43, 44, 45, 46, 4] hsz hs (by kernel_rfl)) r0) r1) r2) r3) r4) r5) r6) r7) r8) r9) r10) r11) r12) r13) r14) r15) rv16) r17) r18) r19) r20) r21) r22) r23) r24)
    have ha := act_of hA hdef
    rw [ha]
    clear ha hA hs hsz hdef r0 r1 r2 r3 r4 r5 r6 r7 r8 r9 r10 r11 r12 r13 r14 r15 r17 r18 r19 r20 r21 r22 r23 r24 rv16
    simp only [List.setIfInBounds_toArray]
    dsimp only [List.set_cons_zero, List.set_cons_succ]
    (try simp only [Exit.then])
    clear hemp hmk hls hmt
    simp only [Option.isSome_some, if_true]
    go_wp2_with fail
    go_ret
    exact ⟨rfl, ((hp1.trans hp2).trans hp3).trans hp⟩
end Go.Proofs.Ytdjbhbefghihcaa
