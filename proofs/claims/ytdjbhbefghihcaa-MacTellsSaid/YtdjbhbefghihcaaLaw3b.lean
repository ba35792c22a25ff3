/- Chapter 3: MacTurned. -/
import Derived.Test.YtdjbhbefghihcaaLaw3
set_option linter.unusedSimpArgs false
set_option linter.unusedVariables false
namespace Go.Esc
open Go Go.RowKit
theorem bndU8 {n : Int} (h : (Lit.int .u8 n).wf = true) : 0 ≤ n ∧ n ≤ 255 := by
  simp [Lit.wf, IntKind.min, IntKind.max, IntKind.signed, IntKind.bits] at h
  omega
theorem u8_of {n : Int} (h : 0 ≤ n ∧ n ≤ 255) : ∃ c : UInt8, n = (c.toNat : Int) := ⟨UInt8.ofNat n.toNat, by simp; omega⟩
end Go.Esc
namespace Go.Proofs.Ytdjbhbefghihcaa
open Go.RowKit Go.Esc
theorem checkNot (key b m : Bs) (h : key.length ≤ 100000) (h2 : b.length ≤ 800000) (h3 : m.length ≤ 1000000) (hne : macL key b ≠ m) (w : World) :
    Calls Try.prog 65 #[S key, S b, S m] w fun e w' => e = .returned (.bool false) ∧ Pu w w' := by
  have := macCheck key b m h h2 h3 w
  rwa [decide_eq_false hne] at this
set_option maxRecDepth 100000 in
set_option maxHeartbeats 3200000 in
theorem macTurned_walk (s : ByteArray) (_ : s.size ≤ maxLen) (s' : ByteArray) (_ : s'.size ≤ maxLen) (at' : Int) (_ : (Lit.int .i64 at').wf = true) (by' : Int) (hby : (Lit.int .u8 by').wf = true) (w : World) :
    Calls Try.prog 29 #[.string s, .string s', .int .i64 at', .int .u8 by'] w fun e w' => e = .returned (.bool true) ∧ Pu w w' := by
  obtain ⟨key, rfl⟩ : ∃ b, s = bs b := ⟨_, bs_eta s⟩
  obtain ⟨b, rfl⟩ : ∃ b, s' = bs b := ⟨_, bs_eta s'⟩
  obtain ⟨y, rfl⟩ := u8_of (bndU8 hby)
  clear hby
  by_cases g1 : 200 < key.length
  · have q1 : (200 : Int) < key.length := by omega
    go_enter Try.func29, Try.ntmps29
    go_wp2_with (go_at_call 62; refine (alive3 _).mono ?_; rintro e w1 ⟨rfl, hp1⟩)
    go_ret
    exact ⟨rfl, hp1⟩
  have q1 : decide ((200 : Int) < key.length) = false := by simp; omega
  by_cases g2 : 300 < b.length
  · have q2 : (300 : Int) < b.length := by omega
    go_enter Try.func29, Try.ntmps29
    go_wp2_with (go_at_call 62; refine (alive3 _).mono ?_; rintro e w1 ⟨rfl, hp1⟩)
    go_ret
    exact ⟨rfl, hp1⟩
  have q2 : decide ((300 : Int) < b.length) = false := by simp; omega
  by_cases g3 : y.toNat = 0
  · have q3 : (y.toNat : Int) = 0 := by omega
    go_enter Try.func29, Try.ntmps29
    go_wp2_with (go_at_call 62; refine (alive3 _).mono ?_; rintro e w1 ⟨rfl, hp1⟩)
    go_ret
    exact ⟨rfl, hp1⟩
  have q3 : ((y.toNat : Int) == 0) = false := by simp; omega
  obtain ⟨m, hm⟩ : ∃ m, m = macL key b := ⟨_, rfl⟩
  have hml : m.length = 32 := by rw [hm]; exact macL_length _ _
  obtain ⟨r, hr⟩ : ∃ r, r = at'.tmod 32 := ⟨_, rfl⟩
  have hr1 : -32 < r := by rw [hr]; exact Int.lt_tmod_of_pos at' (by decide)
  have hr2 : r < 32 := by rw [hr]; exact Int.tmod_lt_of_pos at' (by decide)
  have r0 := hr.symm
  obtain ⟨i, hi, hi32⟩ : ∃ i : Nat, (i : Int) = (r + 32).tmod 32 ∧ i < 32 := by
    refine ⟨((r + 32).tmod 32).toNat, ?_, ?_⟩
    · rw [Int.tmod_eq_emod_of_nonneg (by omega)]; omega
    · rw [Int.tmod_eq_emod_of_nonneg (by omega)]; omega
  have r1 : IntKind.i64.wrap (r + 32) = r + 32 := by rw [IntKind.wrap_i64]; omega
  have r2 := hi.symm
  obtain ⟨x, hx⟩ : ∃ x, m[i]'(by rw [hml]; exact hi32) = x := ⟨_, rfl⟩
  obtain ⟨v, hv⟩ : ∃ v, v = x ^^^ y := ⟨_, rfl⟩
  have hxv : Go.bits .xor .u8 (x.toNat : Int) (y.toNat : Int) = (v.toNat : Int) := by rw [xor_val, hv]
  have hvx : v ≠ x := by
    intro h
    rw [hv] at h
    have h0 : x ^^^ (x ^^^ y) = x ^^^ x := by rw [h]
    rw [← UInt8.xor_assoc, UInt8.xor_self, UInt8.zero_xor] at h0
    exact g3 (by rw [h0]; rfl)
  obtain ⟨m2, hm2⟩ : ∃ m2, m2 = m.set i v := ⟨_, rfl⟩
  have hm2l : m2.length = 32 := by rw [hm2, List.length_set]; exact hml
  have hne : m2 ≠ m := by
    intro h
    have : m2[i]'(by omega) = m[i]'(by omega) := by simp only [h]
    rw [hx] at this
    simp only [hm2, List.getElem_set_self] at this
    exact hvx this
  have hC1 := fun w => checkNot key b m2 (by omega) (by omega) (by omega) (by rw [← hm]; exact Ne.symm hne) w
  have hC2 := fun w => checkNot key b (m2.take 31) (by omega) (by omega) (by simp; omega) (by rw [← hm]; intro h; have := congrArg List.length h; simp at this; omega) w
  have hC3 := fun w => checkNot key b (m ++ [120]) (by omega) (by omega) (by simp; omega) (by rw [← hm]; intro h; have := congrArg List.length h; simp at this) w
  have hSm := fun w => same_not m2 m hne (by omega) (by omega) w
  have hM := fun w => macOf key b (by omega) (by omega) w
  rw [← hm] at hM
  have k120 : (ByteArray.mk #[120]) = bs [120] := rfl
  have hi0 : (0 : Int) ≤ i := by omega
  have hi3 : (i : Int) < 32 := by omega
  have hset := hm2.symm
  have HC1 := Lib.hid hC1
  have HC2 := Lib.hid hC2
  have HC3 := Lib.hid hC3
  have HSM := Lib.hid hSm
  have HM := Lib.hid hM
  have HSET := Lib.hid hset
  clear hC1 hC2 hC3 hSm hM hm hr hi hv hm2 hset hvx hne
  have cC : ∀ args w, (callFunc 65 args).run Try.prog w = .ok (.enter 65 args) w := fun args w => run_callFunc_body Try.func65 (by kernel_rfl) (by kernel_rfl) args w
  have cO : ∀ args w, (callFunc 63 args).run Try.prog w = .ok (.enter 63 args) w := fun args w => run_callFunc_body Try.func63 (by kernel_rfl) (by kernel_rfl) args w
  have cS : ∀ args w, (callFunc 64 args).run Try.prog w = .ok (.enter 64 args) w := fun args w => run_callFunc_body Try.func64 (by kernel_rfl) (by kernel_rfl) args w
  go_enter Try.func29, Try.ntmps29
  go_wp2_with (first
    | (go_at_call 62; refine (alive3 _).mono ?_; rintro e w1 ⟨rfl, hp1⟩)
    | (go_at_call 63; refine (HM.out _).mono ?_; rintro e w2 ⟨rfl, hp2⟩)
    | (refine wpList_bytes _ rfl (.tmp 29) 9 27 5 rfl m (by first | rfl | simp [Act.eval]) Try.underlying9 Try.underlying27 Try.underlying5 ?_; intro w3 cap hrow hpu hcap; have hc := hrow.byte i (by omega); rw [hx] at hc; have hf := hrow.frozen i (by rw [cells_length]; omega)))
  have hr2 := hrow.set i (.int .u8 (v.toNat : Int))
  rw [cells_set, HSET.out] at hr2
  have ht2 : Row (w3.setCell ⟨w2.heap.size, i, none⟩ (.int .u8 (v.toNat : Int))) w2.heap.size 5 (cells (m2.take 31)) := by
    have := hr2.take 31
    rw [show (cells m2).take 31 = cells (m2.take 31) by simp [cells]] at this
    exact this
  have htl : (m2.take 31).length = 31 := by simp; omega
  have hbel : Below w2.heap.size w2 w3 := hpu
  obtain ⟨m3, hm3⟩ : ∃ m3, m3 = m2.take 31 := ⟨_, rfl⟩
  rw [← hm3] at htl ht2
  have HM3 := Lib.hid hm3
  have hC2' : ∀ w, Calls Try.prog 65 #[S key, S b, S m3] w fun e w' => e = .returned (.bool false) ∧ Pu w w' := by
    intro w; rw [HM3.out]; exact HC2.out w
  have HC2' := Lib.hid hC2'
  have hcap31 : (31 : Int) ≤ cap := by omega
  have hcap31' : 31 ≤ cap := by omega
  clear hC2' hm3 hc hf
  apply region_pu (Φs := (Is _ :: Is _ :: Is _ :: Is _ :: Is _ :: Is _ :: Is _ :: Is _ :: Is _ :: Is _ :: Is _ :: Is _ :: Is _ :: Is _ :: Is _ :: Is _ :: Is _ :: Is _ :: Is _ :: Is _ :: Is _ :: Is _ :: Is _ :: Is _ :: Is _ :: Is _ :: Is _ :: Is _ :: Is _ :: Is _ :: Is _ :: Is _ :: Is _ :: Is _ :: Is _ :: [])) (hm := by kernel_rfl) (hE := by kernel_rfl) (hD := by kernel_rfl) (hsize := by kernel_rfl)
  case hop =>
    refine ⟨?_, ?_, ?_, ?_, ?_, ?_, ?_, ?_, ?_, ?_, ?_, ?_, ?_, ?_, ?_, ?_, ?_, ?_, ?_, ?_, ?_, ?_, ?_, ?_, ?_, ?_, ?_, ?_, ?_, ?_, ?_, ?_, ?_, ?_, ?_, trivial⟩
    · intro a' w' hs hp he
      have e0 := hs 0 (by kernel_rfl)
      try simp [Is, Region.binds] at he
      exact op_val rfl (wanted_none rfl) (by first | (go_simp; done) | (go_simp; rfl) | (simp [execOp, Act.eval, go_sem, *]; done) | (simp [execOp, Act.eval, go_sem, *]; rfl)) rfl (Pu.refl _)
    · intro a' w' hs hp he
      have e1 := hs 1 (by kernel_rfl)
      try simp [Is, Region.binds] at he
      exact op_val rfl (wanted_none rfl) (by first | (go_simp; done) | (go_simp; rfl) | (simp [execOp, Act.eval, go_sem, *]; done) | (simp [execOp, Act.eval, go_sem, *]; rfl)) rfl (Pu.refl _)
    · intro a' w' hs hp he
      have e9 := hs 9 (by kernel_rfl)
      try simp [Is, Region.binds] at he
      exact op_val rfl (wanted_none rfl) (by first | (go_simp; done) | (go_simp; rfl) | (simp [execOp, Act.eval, go_sem, *]; done) | (simp [execOp, Act.eval, go_sem, *]; rfl)) rfl (Pu.refl _)
    · intro a' w' hs hp he
      try simp [Is, Region.binds] at he
      have hcv := Row.conv (P := Try.prog) (cap := cap) (n := 32) (l := m2) 27 9 (hr2.pu hp) (hm2l.symm) Try.underlying27 Try.underlying5 Try.underlying9; exact op_val rfl (wanted_none rfl) (by first | (go_simp; done) | (go_simp; rfl)) rfl (Pu.refl _)
    · intro a' w' hs hp he
      try simp [Is, Region.binds] at he
      exact op_callP (HC1.out _) rfl (wanted_none rfl) (by first | (go_simp; done) | (go_simp; rfl)) (fun _ => rfl)
    · intro a' w' hs hp he
      try simp [Is, Region.binds] at he
      exact op_val rfl (wanted_none rfl) (by first | (go_simp; done) | (go_simp; rfl) | (simp [execOp, Act.eval, go_sem, *]; done) | (simp [execOp, Act.eval, go_sem, *]; rfl)) rfl (Pu.refl _)
    · intro a' w' hs hp he
      try simp [Is, Region.binds] at he
      exact op_val rfl (wanted_none rfl) (by first | (go_simp; done) | (go_simp; rfl) | (simp [execOp, Act.eval, go_sem, *]; done) | (simp [execOp, Act.eval, go_sem, *]; rfl)) rfl (Pu.refl _)
    · intro a' w' hs hp he
      have e0 := hs 0 (by kernel_rfl)
      try simp [Is, Region.binds] at he
      first | exact op_skip rfl ((wanted_some rfl rfl (by first | (simp [he]; done) | (simp [he]; rfl))).trans rfl) rfl | exact op_val rfl ((wanted_some rfl rfl (by first | (simp [he]; done) | (simp [he]; rfl))).trans rfl) (by first | (go_simp; done) | (go_simp; rfl) | (simp [execOp, Act.eval, go_sem, *]; done) | (simp [execOp, Act.eval, go_sem, *]; rfl)) rfl (Pu.refl _)
    · intro a' w' hs hp he
      have e1 := hs 1 (by kernel_rfl)
      try simp [Is, Region.binds] at he
      first | exact op_skip rfl ((wanted_some rfl rfl (by first | (simp [he]; done) | (simp [he]; rfl))).trans rfl) rfl | exact op_val rfl ((wanted_some rfl rfl (by first | (simp [he]; done) | (simp [he]; rfl))).trans rfl) (by first | (go_simp; done) | (go_simp; rfl) | (simp [execOp, Act.eval, go_sem, *]; done) | (simp [execOp, Act.eval, go_sem, *]; rfl)) rfl (Pu.refl _)
    · intro a' w' hs hp he
      have e9 := hs 9 (by kernel_rfl)
      try simp [Is, Region.binds] at he
      first | exact op_skip rfl ((wanted_some rfl rfl (by first | (simp [he]; done) | (simp [he]; rfl))).trans rfl) rfl | exact op_val rfl ((wanted_some rfl rfl (by first | (simp [he]; done) | (simp [he]; rfl))).trans rfl) (by first | (go_simp; done) | (go_simp; rfl) | (simp [execOp, Act.eval, go_sem, *]; done) | (simp [execOp, Act.eval, go_sem, *]; rfl)) rfl (Pu.refl _)
    · intro a' w' hs hp he
      try simp [Is, Region.binds] at he
      first | exact op_skip rfl ((wanted_some rfl rfl (by first | (simp [he]; done) | (simp [he]; rfl))).trans rfl) rfl | exact op_val rfl ((wanted_some rfl rfl (by first | (simp [he]; done) | (simp [he]; rfl))).trans rfl) (by first | (go_simp; done) | (go_simp; rfl) | (simp [execOp, Act.eval, go_sem, *]; done) | (simp [execOp, Act.eval, go_sem, *]; rfl)) rfl (Pu.refl _)
    · intro a' w' hs hp he
      try simp [Is, Region.binds] at he
      have hcv := Row.conv (P := Try.prog) (cap := cap) (n := 31) (l := m3) 27 9 (ht2.pu hp) (htl.symm) Try.underlying27 Try.underlying5 Try.underlying9; exact op_val rfl ((wanted_some rfl rfl (by first | (simp [he]; done) | (simp [he]; rfl))).trans rfl) (by first | (go_simp; done) | (go_simp; rfl)) rfl (Pu.refl _)
    · intro a' w' hs hp he
      try simp [Is, Region.binds] at he
      exact op_callP (HC2'.out _) rfl ((wanted_some rfl rfl (by first | (simp [he]; done) | (simp [he]; rfl))).trans rfl) (by first | (go_simp; done) | (go_simp; rfl)) (fun _ => rfl)
    · intro a' w' hs hp he
      try simp [Is, Region.binds] at he
      first | exact op_skip rfl ((wanted_some rfl rfl (by first | (simp [he]; done) | (simp [he]; rfl))).trans rfl) rfl | exact op_val rfl ((wanted_some rfl rfl (by first | (simp [he]; done) | (simp [he]; rfl))).trans rfl) (by first | (go_simp; done) | (go_simp; rfl) | (simp [execOp, Act.eval, go_sem, *]; done) | (simp [execOp, Act.eval, go_sem, *]; rfl)) rfl (Pu.refl _)
    · intro a' w' hs hp he
      try simp [Is, Region.binds] at he
      exact op_val rfl (wanted_none rfl) (by first | (go_simp; done) | (go_simp; rfl) | (simp [execOp, Act.eval, go_sem, *]; done) | (simp [execOp, Act.eval, go_sem, *]; rfl)) rfl (Pu.refl _)
    · intro a' w' hs hp he
      try simp [Is, Region.binds] at he
      exact op_val rfl (wanted_none rfl) (by first | (go_simp; done) | (go_simp; rfl) | (simp [execOp, Act.eval, go_sem, *]; done) | (simp [execOp, Act.eval, go_sem, *]; rfl)) rfl (Pu.refl _)
    · intro a' w' hs hp he
      have e0 := hs 0 (by kernel_rfl)
      try simp [Is, Region.binds] at he
      first | exact op_skip rfl ((wanted_some rfl rfl (by first | (simp [he]; done) | (simp [he]; rfl))).trans rfl) rfl | exact op_val rfl ((wanted_some rfl rfl (by first | (simp [he]; done) | (simp [he]; rfl))).trans rfl) (by first | (go_simp; done) | (go_simp; rfl) | (simp [execOp, Act.eval, go_sem, *]; done) | (simp [execOp, Act.eval, go_sem, *]; rfl)) rfl (Pu.refl _)
    · intro a' w' hs hp he
      have e1 := hs 1 (by kernel_rfl)
      try simp [Is, Region.binds] at he
      first | exact op_skip rfl ((wanted_some rfl rfl (by first | (simp [he]; done) | (simp [he]; rfl))).trans rfl) rfl | exact op_val rfl ((wanted_some rfl rfl (by first | (simp [he]; done) | (simp [he]; rfl))).trans rfl) (by first | (go_simp; done) | (go_simp; rfl) | (simp [execOp, Act.eval, go_sem, *]; done) | (simp [execOp, Act.eval, go_sem, *]; rfl)) rfl (Pu.refl _)
    · intro a' w' hs hp he
      have e0 := hs 0 (by kernel_rfl)
      try simp [Is, Region.binds] at he
      first | exact op_skip rfl ((wanted_some rfl rfl (by first | (simp [he]; done) | (simp [he]; rfl))).trans rfl) rfl | exact op_val rfl ((wanted_some rfl rfl (by first | (simp [he]; done) | (simp [he]; rfl))).trans rfl) (by first | (go_simp; done) | (go_simp; rfl) | (simp [execOp, Act.eval, go_sem, *]; done) | (simp [execOp, Act.eval, go_sem, *]; rfl)) rfl (Pu.refl _)
    · intro a' w' hs hp he
      have e1 := hs 1 (by kernel_rfl)
      try simp [Is, Region.binds] at he
      first | exact op_skip rfl ((wanted_some rfl rfl (by first | (simp [he]; done) | (simp [he]; rfl))).trans rfl) rfl | exact op_val rfl ((wanted_some rfl rfl (by first | (simp [he]; done) | (simp [he]; rfl))).trans rfl) (by first | (go_simp; done) | (go_simp; rfl) | (simp [execOp, Act.eval, go_sem, *]; done) | (simp [execOp, Act.eval, go_sem, *]; rfl)) rfl (Pu.refl _)
    · intro a' w' hs hp he
      try simp [Is, Region.binds] at he
      exact op_callP (HM.out _) rfl ((wanted_some rfl rfl (by first | (simp [he]; done) | (simp [he]; rfl))).trans rfl) (by first | (go_simp; done) | (go_simp; rfl)) (fun _ => rfl)
    · intro a' w' hs hp he
      try simp [Is, Region.binds] at he
      first | exact op_skip rfl ((wanted_some rfl rfl (by first | (simp [he]; done) | (simp [he]; rfl))).trans rfl) rfl | exact op_val rfl ((wanted_some rfl rfl (by first | (simp [he]; done) | (simp [he]; rfl))).trans rfl) (by first | (go_simp; done) | (go_simp; rfl) | (simp [execOp, Act.eval, go_sem, *]; done) | (simp [execOp, Act.eval, go_sem, *]; rfl)) rfl (Pu.refl _)
    · intro a' w' hs hp he
      try simp [Is, Region.binds] at he
      exact op_callP (HC3.out _) rfl ((wanted_some rfl rfl (by first | (simp [he]; done) | (simp [he]; rfl))).trans rfl) (by first | (go_simp; done) | (go_simp; rfl)) (fun _ => rfl)
    · intro a' w' hs hp he
      try simp [Is, Region.binds] at he
      first | exact op_skip rfl ((wanted_some rfl rfl (by first | (simp [he]; done) | (simp [he]; rfl))).trans rfl) rfl | exact op_val rfl ((wanted_some rfl rfl (by first | (simp [he]; done) | (simp [he]; rfl))).trans rfl) (by first | (go_simp; done) | (go_simp; rfl) | (simp [execOp, Act.eval, go_sem, *]; done) | (simp [execOp, Act.eval, go_sem, *]; rfl)) rfl (Pu.refl _)
    · intro a' w' hs hp he
      try simp [Is, Region.binds] at he
      exact op_val rfl (wanted_none rfl) (by first | (go_simp; done) | (go_simp; rfl) | (simp [execOp, Act.eval, go_sem, *]; done) | (simp [execOp, Act.eval, go_sem, *]; rfl)) rfl (Pu.refl _)
    · intro a' w' hs hp he
      try simp [Is, Region.binds] at he
      exact op_val rfl (wanted_none rfl) (by first | (go_simp; done) | (go_simp; rfl) | (simp [execOp, Act.eval, go_sem, *]; done) | (simp [execOp, Act.eval, go_sem, *]; rfl)) rfl (Pu.refl _)
    · intro a' w' hs hp he
      have e9 := hs 9 (by kernel_rfl)
      try simp [Is, Region.binds] at he
      first | exact op_skip rfl ((wanted_some rfl rfl (by first | (simp [he]; done) | (simp [he]; rfl))).trans rfl) rfl | exact op_val rfl ((wanted_some rfl rfl (by first | (simp [he]; done) | (simp [he]; rfl))).trans rfl) (by first | (go_simp; done) | (go_simp; rfl) | (simp [execOp, Act.eval, go_sem, *]; done) | (simp [execOp, Act.eval, go_sem, *]; rfl)) rfl (Pu.refl _)
    · intro a' w' hs hp he
      try simp [Is, Region.binds] at he
      have hcv := Row.conv (P := Try.prog) (cap := cap) (n := 32) (l := m2) 27 9 (hr2.pu hp) (hm2l.symm) Try.underlying27 Try.underlying5 Try.underlying9; exact op_val rfl ((wanted_some rfl rfl (by first | (simp [he]; done) | (simp [he]; rfl))).trans rfl) (by first | (go_simp; done) | (go_simp; rfl)) rfl (Pu.refl _)
    · intro a' w' hs hp he
      have e0 := hs 0 (by kernel_rfl)
      try simp [Is, Region.binds] at he
      first | exact op_skip rfl ((wanted_some rfl rfl (by first | (simp [he]; done) | (simp [he]; rfl))).trans rfl) rfl | exact op_val rfl ((wanted_some rfl rfl (by first | (simp [he]; done) | (simp [he]; rfl))).trans rfl) (by first | (go_simp; done) | (go_simp; rfl) | (simp [execOp, Act.eval, go_sem, *]; done) | (simp [execOp, Act.eval, go_sem, *]; rfl)) rfl (Pu.refl _)
    · intro a' w' hs hp he
      have e1 := hs 1 (by kernel_rfl)
      try simp [Is, Region.binds] at he
      first | exact op_skip rfl ((wanted_some rfl rfl (by first | (simp [he]; done) | (simp [he]; rfl))).trans rfl) rfl | exact op_val rfl ((wanted_some rfl rfl (by first | (simp [he]; done) | (simp [he]; rfl))).trans rfl) (by first | (go_simp; done) | (go_simp; rfl) | (simp [execOp, Act.eval, go_sem, *]; done) | (simp [execOp, Act.eval, go_sem, *]; rfl)) rfl (Pu.refl _)
    · intro a' w' hs hp he
      try simp [Is, Region.binds] at he
      exact op_callP (HM.out _) rfl ((wanted_some rfl rfl (by first | (simp [he]; done) | (simp [he]; rfl))).trans rfl) (by first | (go_simp; done) | (go_simp; rfl)) (fun _ => rfl)
    · intro a' w' hs hp he
      try simp [Is, Region.binds] at he
      exact op_callP (HSM.out _) rfl ((wanted_some rfl rfl (by first | (simp [he]; done) | (simp [he]; rfl))).trans rfl) (by first | (go_simp; done) | (go_simp; rfl)) (fun _ => rfl)
    · intro a' w' hs hp he
      try simp [Is, Region.binds] at he
      first | exact op_skip rfl ((wanted_some rfl rfl (by first | (simp [he]; done) | (simp [he]; rfl))).trans rfl) rfl | exact op_val rfl ((wanted_some rfl rfl (by first | (simp [he]; done) | (simp [he]; rfl))).trans rfl) (by first | (go_simp; done) | (go_simp; rfl) | (simp [execOp, Act.eval, go_sem, *]; done) | (simp [execOp, Act.eval, go_sem, *]; rfl)) rfl (Pu.refl _)
    · intro a' w' hs hp he
      try simp [Is, Region.binds] at he
      exact op_val rfl (wanted_none rfl) (by first | (go_simp; done) | (go_simp; rfl) | (simp [execOp, Act.eval, go_sem, *]; done) | (simp [execOp, Act.eval, go_sem, *]; rfl)) rfl (Pu.refl _)
    · intro a' w' hs hp he
      try simp [Is, Region.binds] at he
      exact op_val rfl (wanted_none rfl) (by first | (go_simp; done) | (go_simp; rfl) | (simp [execOp, Act.eval, go_sem, *]; done) | (simp [execOp, Act.eval, go_sem, *]; rfl)) rfl (Pu.refl _)
  case hend =>
    intro a' w' hdef hsz hs hp hall
    obtain ⟨r0, r1, r2, r3, r4, r5, r6, r7, r8, r9, r10, r11, r12, r13, r14, r15, r16, r17, r18, r19, r20, r21, r22, r23, r24, r25, r26, r27, r28, r29, r30, r31, r32, r33, r34, -⟩ := hall
    have hA := agree_done (agree_step (agree_step (agree_step (agree_step (agree_step (agree_step (agree_step (agree_step (agree_step (agree_step (agree_step (agree_step (agree_step (agree_step (agree_step (agree_step (agree_step (agree_step (agree_step (agree_step (agree_step (agree_step (agree_step (agree_step (agree_step (agree_step (agree_step (agree_step (agree_step (agree_step (agree_step (agree_step (agree_step (agree_step (agree_step (agree_init [44, 45, 46, 47, 48, 49, 50, 51, 52, 53, 54, 55, 56, 57, 58, 59, 60, 61, 62, 63, 64, 65, 66, 67, 68, 69, 70, 71, 72, 73, 74, 75, 76, 77, 8] hsz hs (by kernel_rfl)) r0) r1) r2) r3) r4) r5) r6) r7) r8) r9) r10) r11) r12) r13) r14) r15) r16) r17) r18) r19) r20) r21) r22) r23) r24) r25) r26) r27) r28) r29) r30) r31) r32) r33) r34)
    have ha := act_of hA hdef
    rw [ha]
    clear ha hA hs hsz hdef r0 r1 r2 r3 r4 r5 r6 r7 r8 r9 r10 r11 r12 r13 r14 r15 r16 r17 r18 r19 r20 r21 r22 r23 r24 r25 r26 r27 r28 r29 r30 r31 r32 r33 r34 
    simp only [List.setIfInBounds_toArray]
    dsimp only [List.set_cons_zero, List.set_cons_succ]
    (try simp only [Exit.then])
    go_wp2_with fail
    go_ret
    exact ⟨rfl, (hp1.trans hp2).trans ((hbel.setCell (p := ⟨w2.heap.size, i, none⟩) (Nat.le_refl _) _).trans (Below.mono hp (by have := hbel.size; simp; omega)))⟩
end Go.Proofs.Ytdjbhbefghihcaa
