/- Chapter 7: BoxHides, BoxMore, BoxKeys, BoxEmpty. -/
import Derived.Test.YtdjbhbefghihcaaLaw7
set_option linter.unusedSimpArgs false
set_option linter.unusedVariables false
namespace Go.Proofs.Ytdjbhbefghihcaa
open Go.RowKit Go.Esc
theorem openC (k n b m p : Bs) (q : Bool) (h : openR k n b m = (p, q)) (hb : b.length ≤ 90000) (hm : m.length ≤ 100000) :
    (∀ w, Calls Try.prog 51 #[S k, S n, S b, S m] w fun e w' => e = .returned (.tuple #[S p, .bool q]) ∧ Pu w w') ∧
    (∀ w, Calls Try.prog 52 #[S k, S n, S b, S m] w fun e w' => e = .returned (.tuple #[S p, .bool q]) ∧ Pu w w') := by
  constructor
  · intro w; have := boxOpen k n b m hb hm w; rw [h] at this; exact this
  · intro w; have := refUnbox k n b m hb hm w; rw [h] at this; exact this
theorem sealC (k n p m s : Bs) (hf : fineL k n = true) (hs : s = sealL k n p m) (hp : p.length ≤ 90000) (hm : m.length ≤ 100000) (w : World) :
    Calls Try.prog 49 #[S k, S n, S p, S m] w fun e w' => e = .returned (.tuple #[S s, .bool true]) ∧ Pu w w' := by
  have := boxSeal k n p m hp hm w
  rw [sealR_yes _ _ hf, ← hs] at this
  exact this
theorem sealL_take (k n p m : Bs) : (sealL k n p m).take p.length = streamL k 1 n p := by
  rw [sealL]
  have := streamL_length k 1 n p
  show (streamL k 1 n p ++ _).take _ = _
  rw [List.take_append_of_le_length (by omega), List.take_of_length_le (by omega)]
set_option maxRecDepth 100000 in
set_option maxHeartbeats 6400000 in
theorem boxHides_walk (s0 : ByteArray) (_ : s0.size ≤ maxLen) (s1 : ByteArray) (_ : s1.size ≤ maxLen) (s2 : ByteArray) (_ : s2.size ≤ maxLen) (s3 : ByteArray) (_ : s3.size ≤ maxLen) (w : World) :
    Calls Try.prog 16 #[.string s0, .string s1, .string s2, .string s3] w fun e w' => e = .returned (.bool true) ∧ Pu w w' := by
  obtain ⟨key, rfl⟩ : ∃ b, s0 = bs b := ⟨_, bs_eta s0⟩
  obtain ⟨nonce, rfl⟩ : ∃ b, s1 = bs b := ⟨_, bs_eta s1⟩
  obtain ⟨plain, rfl⟩ : ∃ b, s2 = bs b := ⟨_, bs_eta s2⟩
  obtain ⟨more, rfl⟩ : ∃ b, s3 = bs b := ⟨_, bs_eta s3⟩
  by_cases g3 : 300 < plain.length
  · have q3 : (300 : Int) < plain.length := by omega
    go_enter Try.func16, Try.ntmps16
    go_wp2_with (go_at_call 47; refine (alive7 _).mono ?_; rintro e w1 ⟨rfl, hp1⟩)
    go_ret
    exact ⟨rfl, hp1⟩
  have q3 : decide ((300 : Int) < plain.length) = false := by simp; omega
  by_cases g4 : 100 < more.length
  · have q4 : (100 : Int) < more.length := by omega
    go_enter Try.func16, Try.ntmps16
    go_wp2_with (go_at_call 47; refine (alive7 _).mono ?_; rintro e w1 ⟨rfl, hp1⟩)
    go_ret
    exact ⟨rfl, hp1⟩
  have q4 : decide ((100 : Int) < more.length) = false := by simp; omega
  have hF1 := fun w => lawFill key 32 (by decide) w
  have hF2 := fun w => lawFill nonce 12 (by decide) w
  rw [show ((32 : Nat) : Int) = 32 from rfl] at hF1
  rw [show ((12 : Nat) : Int) = 12 from rfl] at hF2
  have hf := fine_fill key nonce
  obtain ⟨k, hk⟩ : ∃ k, k = fillL key 32 := ⟨_, rfl⟩
  obtain ⟨n, hn⟩ : ∃ k, k = fillL nonce 12 := ⟨_, rfl⟩
  rw [← hk] at hF1 hf
  rw [← hn] at hF2 hf
  have HF1 := Lib.hid hF1
  have HF2 := Lib.hid hF2
  clear hF1 hF2 hk hn
  obtain ⟨s, hs⟩ : ∃ s, s = sealL k n plain more := ⟨_, rfl⟩
  have hS := fun w => sealC k n plain more s hf hs (by omega) (by omega) w
  have hsl := sealL_length k n plain more
  have htk := sealL_take k n plain more
  rw [← hs] at hsl htk
  have hX := fun w => refStream k n plain 1 hf (by omega) (by omega) w
  rw [show ((1 : Nat) : Int) = 1 from rfl] at hX
  obtain ⟨x, hx⟩ : ∃ x, x = streamL k 1 n plain := ⟨_, rfl⟩
  rw [← hx] at hX htk
  have z1 : (plain.length : Int) ≤ s.length := by omega
  have z2 : (s.length : Int) = plain.length + 16 := by omega
  have z4 : (plain.length : Int) ≤ (plain.length : Int) + 16 := by omega
  have z3 : IntKind.i64.wrap ((plain.length : Int) + 16) = plain.length + 16 := by rw [IntKind.wrap_i64]; omega
  have HS := Lib.hid hS
  have HX := Lib.hid hX
  clear hS hX hs hx hf
  go_enter Try.func16, Try.ntmps16
  go_wp2_with (first
    | (go_at_call 47; refine (alive7 _).mono ?_; rintro e w1 ⟨rfl, hp1⟩)
    | (go_at_call 48; refine (HF1.out _).mono ?_; rintro e w7 ⟨rfl, hp7⟩; clear HF1)
    | (go_at_call 48; refine (HF2.out _).mono ?_; rintro e w8 ⟨rfl, hp8⟩)
    | (go_at_call 49; refine (HS.out _).mono ?_; rintro e w2 ⟨rfl, hp2⟩))
  apply region_pu (Φs := (Is _ :: Is _ :: Is _ :: Is _ :: Is _ :: Is _ :: Is _ :: Is _ :: Is _ :: Is _ :: Is _ :: Is _ :: Is _ :: Is _ :: Is _ :: Is _ :: Is _ :: Is _ :: Is _ :: Is _ :: Is _ :: [])) (hm := by kernel_rfl) (hE := by kernel_rfl) (hD := by kernel_rfl) (hsize := by kernel_rfl)
  case hop =>
    refine ⟨?_, ?_, ?_, ?_, ?_, ?_, ?_, ?_, ?_, ?_, ?_, ?_, ?_, ?_, ?_, ?_, ?_, ?_, ?_, ?_, ?_, trivial⟩
    · intro a' w' hs hp he
      have e10 := hs 10 (by kernel_rfl)
      try simp [Is, Region.binds] at he
      exact op_val rfl (wanted_none rfl) (by first | (go_simp; done) | (go_simp; rfl) | (simp [execOp, Act.eval, go_sem, *]; done) | (simp [execOp, Act.eval, go_sem, *]; rfl)) rfl (Pu.refl _)
    · intro a' w' hs hp he
      try simp [Is, Region.binds] at he
      exact op_val rfl (wanted_none rfl) (by first | (go_simp; done) | (go_simp; rfl) | (simp [execOp, Act.eval, go_sem, *]; done) | (simp [execOp, Act.eval, go_sem, *]; rfl)) rfl (Pu.refl _)
    · intro a' w' hs hp he
      have e9 := hs 9 (by kernel_rfl)
      try simp [Is, Region.binds] at he
      first | exact op_skip rfl ((wanted_some rfl rfl (by first | (simp [he]; done) | (simp [he]; rfl))).trans rfl) rfl | exact op_val rfl ((wanted_some rfl rfl (by first | (simp [he]; done) | (simp [he]; rfl))).trans rfl) (by first | (go_simp; done) | (go_simp; rfl) | (simp [execOp, Act.eval, go_sem, *]; done) | (simp [execOp, Act.eval, go_sem, *]; rfl)) rfl (Pu.refl _)
    · intro a' w' hs hp he
      try simp [Is, Region.binds] at he
      first | exact op_skip rfl ((wanted_some rfl rfl (by first | (simp [he]; done) | (simp [he]; rfl))).trans rfl) rfl | exact op_val rfl ((wanted_some rfl rfl (by first | (simp [he]; done) | (simp [he]; rfl))).trans rfl) (by first | (go_simp; done) | (go_simp; rfl) | (simp [execOp, Act.eval, go_sem, *]; done) | (simp [execOp, Act.eval, go_sem, *]; rfl)) rfl (Pu.refl _)
    · intro a' w' hs hp he
      have e2 := hs 2 (by kernel_rfl)
      try simp [Is, Region.binds] at he
      first | exact op_skip rfl ((wanted_some rfl rfl (by first | (simp [he]; done) | (simp [he]; rfl))).trans rfl) rfl | exact op_val rfl ((wanted_some rfl rfl (by first | (simp [he]; done) | (simp [he]; rfl))).trans rfl) (by first | (go_simp; done) | (go_simp; rfl) | (simp [execOp, Act.eval, go_sem, *]; done) | (simp [execOp, Act.eval, go_sem, *]; rfl)) rfl (Pu.refl _)
    · intro a' w' hs hp he
      try simp [Is, Region.binds] at he
      first | exact op_skip rfl ((wanted_some rfl rfl (by first | (simp [he]; done) | (simp [he]; rfl))).trans rfl) rfl | exact op_val rfl ((wanted_some rfl rfl (by first | (simp [he]; done) | (simp [he]; rfl))).trans rfl) (by first | (go_simp; done) | (go_simp; rfl) | (simp [execOp, Act.eval, go_sem, *]; done) | (simp [execOp, Act.eval, go_sem, *]; rfl)) rfl (Pu.refl _)
    · intro a' w' hs hp he
      try simp [Is, Region.binds] at he
      first | exact op_skip rfl ((wanted_some rfl rfl (by first | (simp [he]; done) | (simp [he]; rfl))).trans rfl) rfl | exact op_val rfl ((wanted_some rfl rfl (by first | (simp [he]; done) | (simp [he]; rfl))).trans rfl) (by first | (go_simp; done) | (go_simp; rfl) | (simp [execOp, Act.eval, go_sem, *]; done) | (simp [execOp, Act.eval, go_sem, *]; rfl)) rfl (Pu.refl _)
    · intro a' w' hs hp he
      try simp [Is, Region.binds] at he
      first | exact op_skip rfl ((wanted_some rfl rfl (by first | (simp [he]; done) | (simp [he]; rfl))).trans rfl) rfl | exact op_val rfl ((wanted_some rfl rfl (by first | (simp [he]; done) | (simp [he]; rfl))).trans rfl) (by first | (go_simp; done) | (go_simp; rfl) | (simp [execOp, Act.eval, go_sem, *]; done) | (simp [execOp, Act.eval, go_sem, *]; rfl)) rfl (Pu.refl _)
    · intro a' w' hs hp he
      try simp [Is, Region.binds] at he
      exact op_val rfl (wanted_none rfl) (by first | (go_simp; done) | (go_simp; rfl) | (simp [execOp, Act.eval, go_sem, *]; done) | (simp [execOp, Act.eval, go_sem, *]; rfl)) rfl (Pu.refl _)
    · intro a' w' hs hp he
      try simp [Is, Region.binds] at he
      exact op_val rfl (wanted_none rfl) (by first | (go_simp; done) | (go_simp; rfl) | (simp [execOp, Act.eval, go_sem, *]; done) | (simp [execOp, Act.eval, go_sem, *]; rfl)) rfl (Pu.refl _)
    · intro a' w' hs hp he
      have e9 := hs 9 (by kernel_rfl)
      try simp [Is, Region.binds] at he
      first | exact op_skip rfl ((wanted_some rfl rfl (by first | (simp [he]; done) | (simp [he]; rfl))).trans rfl) rfl | exact op_val rfl ((wanted_some rfl rfl (by first | (simp [he]; done) | (simp [he]; rfl))).trans rfl) (by first | (go_simp; done) | (go_simp; rfl) | (simp [execOp, Act.eval, go_sem, *]; done) | (simp [execOp, Act.eval, go_sem, *]; rfl)) rfl (Pu.refl _)
    · intro a' w' hs hp he
      have e2 := hs 2 (by kernel_rfl)
      try simp [Is, Region.binds] at he
      first | exact op_skip rfl ((wanted_some rfl rfl (by first | (simp [he]; done) | (simp [he]; rfl))).trans rfl) rfl | exact op_val rfl ((wanted_some rfl rfl (by first | (simp [he]; done) | (simp [he]; rfl))).trans rfl) (by first | (go_simp; done) | (go_simp; rfl) | (simp [execOp, Act.eval, go_sem, *]; done) | (simp [execOp, Act.eval, go_sem, *]; rfl)) rfl (Pu.refl _)
    · intro a' w' hs hp he
      try simp [Is, Region.binds] at he
      first | exact op_skip rfl ((wanted_some rfl rfl (by first | (simp [he]; done) | (simp [he]; rfl))).trans rfl) rfl | exact op_val rfl ((wanted_some rfl rfl (by first | (simp [he]; done) | (simp [he]; rfl))).trans rfl) (by first | (go_simp; done) | (go_simp; rfl) | (simp [execOp, Act.eval, go_sem, *]; done) | (simp [execOp, Act.eval, go_sem, *]; rfl)) rfl (Pu.refl _)
    · intro a' w' hs hp he
      try simp [Is, Region.binds] at he
      first | exact op_skip rfl ((wanted_some rfl rfl (by first | (simp [he]; done) | (simp [he]; rfl))).trans rfl) rfl | exact op_val rfl ((wanted_some rfl rfl (by first | (simp [he]; done) | (simp [he]; rfl))).trans rfl) (by first | (go_simp; done) | (go_simp; rfl) | (simp [execOp, Act.eval, go_sem, *]; done) | (simp [execOp, Act.eval, go_sem, *]; rfl)) rfl (Pu.refl _)
    · intro a' w' hs hp he
      have e0 := hs 0 (by kernel_rfl)
      try simp [Is, Region.binds] at he
      first | exact op_skip rfl ((wanted_some rfl rfl (by first | (simp [he]; done) | (simp [he]; rfl))).trans rfl) rfl | exact op_val rfl ((wanted_some rfl rfl (by first | (simp [he]; done) | (simp [he]; rfl))).trans rfl) (by first | (go_simp; done) | (go_simp; rfl) | (simp [execOp, Act.eval, go_sem, *]; done) | (simp [execOp, Act.eval, go_sem, *]; rfl)) rfl (Pu.refl _)
    · intro a' w' hs hp he
      have e1 := hs 1 (by kernel_rfl)
      try simp [Is, Region.binds] at he
      first | exact op_skip rfl ((wanted_some rfl rfl (by first | (simp [he]; done) | (simp [he]; rfl))).trans rfl) rfl | exact op_val rfl ((wanted_some rfl rfl (by first | (simp [he]; done) | (simp [he]; rfl))).trans rfl) (by first | (go_simp; done) | (go_simp; rfl) | (simp [execOp, Act.eval, go_sem, *]; done) | (simp [execOp, Act.eval, go_sem, *]; rfl)) rfl (Pu.refl _)
    · intro a' w' hs hp he
      have e2 := hs 2 (by kernel_rfl)
      try simp [Is, Region.binds] at he
      first | exact op_skip rfl ((wanted_some rfl rfl (by first | (simp [he]; done) | (simp [he]; rfl))).trans rfl) rfl | exact op_val rfl ((wanted_some rfl rfl (by first | (simp [he]; done) | (simp [he]; rfl))).trans rfl) (by first | (go_simp; done) | (go_simp; rfl) | (simp [execOp, Act.eval, go_sem, *]; done) | (simp [execOp, Act.eval, go_sem, *]; rfl)) rfl (Pu.refl _)
    · intro a' w' hs hp he
      try simp [Is, Region.binds] at he
      exact op_callP (HX.out _) rfl ((wanted_some rfl rfl (by first | (simp [he]; done) | (simp [he]; rfl))).trans rfl) (by first | (go_simp; done) | (go_simp; rfl)) (fun _ => rfl)
    · intro a' w' hs hp he
      try simp [Is, Region.binds] at he
      first | exact op_skip rfl ((wanted_some rfl rfl (by first | (simp [he]; done) | (simp [he]; rfl))).trans rfl) rfl | exact op_val rfl ((wanted_some rfl rfl (by first | (simp [he]; done) | (simp [he]; rfl))).trans rfl) (by first | (go_simp; done) | (go_simp; rfl) | (simp [execOp, Act.eval, go_sem, *]; done) | (simp [execOp, Act.eval, go_sem, *]; rfl)) rfl (Pu.refl _)
    · intro a' w' hs hp he
      try simp [Is, Region.binds] at he
      exact op_val rfl (wanted_none rfl) (by first | (go_simp; done) | (go_simp; rfl) | (simp [execOp, Act.eval, go_sem, *]; done) | (simp [execOp, Act.eval, go_sem, *]; rfl)) rfl (Pu.refl _)
    · intro a' w' hs hp he
      try simp [Is, Region.binds] at he
      exact op_val rfl (wanted_none rfl) (by first | (go_simp; done) | (go_simp; rfl) | (simp [execOp, Act.eval, go_sem, *]; done) | (simp [execOp, Act.eval, go_sem, *]; rfl)) rfl (Pu.refl _)
  case hend =>
    intro a' w' hdef hsz hs hp hall
    obtain ⟨r0, r1, r2, r3, r4, r5, r6, r7, r8, r9, r10, r11, r12, r13, r14, r15, r16, r17, r18, r19, r20, -⟩ := hall
    have hA := agree_done (agree_step (agree_step (agree_step (agree_step (agree_step (agree_step (agree_step (agree_step (agree_step (agree_step (agree_step (agree_step (agree_step (agree_step (agree_step (agree_step (agree_step (agree_step (agree_step (agree_step (agree_step (agree_init [36, 37, 38, 39, 40, 41, 42, 43, 44, 45, 46, 47, 48, 49, 50, 51, 52, 53, 54, 55, 8] hsz hs (by kernel_rfl)) r0) r1) r2) r3) r4) r5) r6) r7) r8) r9) r10) r11) r12) r13) r14) r15) r16) r17) r18) r19) r20)
    have ha := act_of hA hdef
    rw [ha]
    clear ha hA hs hsz hdef r0 r1 r2 r3 r4 r5 r6 r7 r8 r9 r10 r11 r12 r13 r14 r15 r16 r17 r18 r19 r20 
    (try simp only [List.setIfInBounds_toArray])
    (try dsimp only [List.set_cons_zero, List.set_cons_succ])
    (try simp only [Exit.then])
    go_wp2_with fail
    go_ret
    exact ⟨by simp, (((hp1.trans hp7).trans hp8).trans hp2).trans hp⟩
set_option maxRecDepth 100000 in
set_option maxHeartbeats 6400000 in
theorem boxMore_walk (s0 : ByteArray) (_ : s0.size ≤ maxLen) (s1 : ByteArray) (_ : s1.size ≤ maxLen) (s2 : ByteArray) (_ : s2.size ≤ maxLen) (s3 : ByteArray) (_ : s3.size ≤ maxLen) (s4 : ByteArray) (_ : s4.size ≤ maxLen) (w : World) :
    Calls Try.prog 17 #[.string s0, .string s1, .string s2, .string s3, .string s4] w fun e w' => e = .returned (.bool true) ∧ Pu w w' := by
  obtain ⟨key, rfl⟩ : ∃ b, s0 = bs b := ⟨_, bs_eta s0⟩
  obtain ⟨nonce, rfl⟩ : ∃ b, s1 = bs b := ⟨_, bs_eta s1⟩
  obtain ⟨plain, rfl⟩ : ∃ b, s2 = bs b := ⟨_, bs_eta s2⟩
  obtain ⟨more, rfl⟩ : ∃ b, s3 = bs b := ⟨_, bs_eta s3⟩
  obtain ⟨other, rfl⟩ : ∃ b, s4 = bs b := ⟨_, bs_eta s4⟩
  by_cases g3 : 200 < plain.length
  · have q3 : (200 : Int) < plain.length := by omega
    go_enter Try.func17, Try.ntmps17
    go_wp2_with (go_at_call 47; refine (alive7 _).mono ?_; rintro e w1 ⟨rfl, hp1⟩)
    go_ret
    exact ⟨rfl, hp1⟩
  have q3 : decide ((200 : Int) < plain.length) = false := by simp; omega
  by_cases g4 : 100 < more.length
  · have q4 : (100 : Int) < more.length := by omega
    go_enter Try.func17, Try.ntmps17
    go_wp2_with (go_at_call 47; refine (alive7 _).mono ?_; rintro e w1 ⟨rfl, hp1⟩)
    go_ret
    exact ⟨rfl, hp1⟩
  have q4 : decide ((100 : Int) < more.length) = false := by simp; omega
  by_cases g5 : 100 < other.length
  · have q5 : (100 : Int) < other.length := by omega
    go_enter Try.func17, Try.ntmps17
    go_wp2_with (go_at_call 47; refine (alive7 _).mono ?_; rintro e w1 ⟨rfl, hp1⟩)
    go_ret
    exact ⟨rfl, hp1⟩
  have q5 : decide ((100 : Int) < other.length) = false := by simp; omega
  have hF1 := fun w => lawFill key 32 (by decide) w
  have hF2 := fun w => lawFill nonce 12 (by decide) w
  rw [show ((32 : Nat) : Int) = 32 from rfl] at hF1
  rw [show ((12 : Nat) : Int) = 12 from rfl] at hF2
  have hf := fine_fill key nonce
  obtain ⟨k, hk⟩ : ∃ k, k = fillL key 32 := ⟨_, rfl⟩
  obtain ⟨n, hn⟩ : ∃ k, k = fillL nonce 12 := ⟨_, rfl⟩
  rw [← hk] at hF1 hf
  rw [← hn] at hF2 hf
  have HF1 := Lib.hid hF1
  have HF2 := Lib.hid hF2
  clear hF1 hF2 hk hn
  obtain ⟨s, hs⟩ : ∃ s, s = sealL k n plain more := ⟨_, rfl⟩
  have hS := fun w => sealC k n plain more s hf hs (by omega) (by omega) w
  have hsl := sealL_length k n plain more
  have hop := open_seal k n plain more hf
  rw [← hs] at hsl hop
  have HS := Lib.hid hS
  by_cases hmo : more = other
  · subst hmo
    have hO := openC k n s more plain true hop (by omega) (by omega)
    have HO := Lib.hid hO
    clear hS hs hop hO hf q5 g5
    go_enter Try.func17, Try.ntmps17
    go_wp2_with (first
      | (go_at_call 47; refine (alive7 _).mono ?_; rintro e w1 ⟨rfl, hp1⟩)
      | (go_at_call 48; refine (HF1.out _).mono ?_; rintro e w7 ⟨rfl, hp7⟩; clear HF1)
      | (go_at_call 48; refine (HF2.out _).mono ?_; rintro e w8 ⟨rfl, hp8⟩)
      | (go_at_call 49; refine (HS.out _).mono ?_; rintro e w2 ⟨rfl, hp2⟩)
      | (go_at_call 51; refine (HO.out.1 _).mono ?_; rintro e w3 ⟨rfl, hp3⟩)
      | (go_at_call 52; refine (HO.out.2 _).mono ?_; rintro e w4 ⟨rfl, hp4⟩))
    go_ret
    exact ⟨by simp, ((((hp1.trans hp7).trans hp8).trans hp2).trans hp3).trans hp4⟩
  · obtain ⟨p, q, hpq⟩ : ∃ p q, openR k n s other = (p, q) := ⟨_, _, rfl⟩
    have hO := openC k n s other p q hpq (by omega) (by omega)
    have HO := Lib.hid hO
    have hne : (more == other) = false := beq_eq_false_iff_ne.2 hmo
    clear hS hs hop hO hf hpq hmo
    go_enter Try.func17, Try.ntmps17
    go_wp2_with (first
      | (go_at_call 47; refine (alive7 _).mono ?_; rintro e w1 ⟨rfl, hp1⟩)
      | (go_at_call 48; refine (HF1.out _).mono ?_; rintro e w7 ⟨rfl, hp7⟩; clear HF1)
      | (go_at_call 48; refine (HF2.out _).mono ?_; rintro e w8 ⟨rfl, hp8⟩)
      | (go_at_call 49; refine (HS.out _).mono ?_; rintro e w2 ⟨rfl, hp2⟩)
      | (go_at_call 51; refine (HO.out.1 _).mono ?_; rintro e w3 ⟨rfl, hp3⟩)
      | (go_at_call 52; refine (HO.out.2 _).mono ?_; rintro e w4 ⟨rfl, hp4⟩))
    go_ret
    exact ⟨by simp, ((((hp1.trans hp7).trans hp8).trans hp2).trans hp3).trans hp4⟩
set_option maxRecDepth 100000 in
set_option maxHeartbeats 6400000 in
theorem boxKeys_walk (s0 : ByteArray) (_ : s0.size ≤ maxLen) (s1 : ByteArray) (_ : s1.size ≤ maxLen) (s2 : ByteArray) (_ : s2.size ≤ maxLen) (s3 : ByteArray) (_ : s3.size ≤ maxLen) (s4 : ByteArray) (_ : s4.size ≤ maxLen) (w : World) :
    Calls Try.prog 18 #[.string s0, .string s1, .string s2, .string s3, .string s4] w fun e w' => e = .returned (.bool true) ∧ Pu w w' := by
  obtain ⟨key, rfl⟩ : ∃ b, s0 = bs b := ⟨_, bs_eta s0⟩
  obtain ⟨other, rfl⟩ : ∃ b, s1 = bs b := ⟨_, bs_eta s1⟩
  obtain ⟨nonce, rfl⟩ : ∃ b, s2 = bs b := ⟨_, bs_eta s2⟩
  obtain ⟨second, rfl⟩ : ∃ b, s3 = bs b := ⟨_, bs_eta s3⟩
  obtain ⟨plain, rfl⟩ : ∃ b, s4 = bs b := ⟨_, bs_eta s4⟩
  by_cases g3 : 200 < plain.length
  · have q3 : (200 : Int) < plain.length := by omega
    go_enter Try.func18, Try.ntmps18
    go_wp2_with (go_at_call 47; refine (alive7 _).mono ?_; rintro e w1 ⟨rfl, hp1⟩)
    go_ret
    exact ⟨rfl, hp1⟩
  have q3 : decide ((200 : Int) < plain.length) = false := by simp; omega
  have hf1 := fine_fill key nonce
  have hf2 := fine_fill other nonce
  have hf3 := fine_fill key second
  have hF1 := fun w => lawFill key 32 (by decide) w
  have hF2 := fun w => lawFill other 32 (by decide) w
  have hF3 := fun w => lawFill nonce 12 (by decide) w
  have hF4 := fun w => lawFill second 12 (by decide) w
  rw [show ((32 : Nat) : Int) = 32 from rfl] at hF1 hF2
  rw [show ((12 : Nat) : Int) = 12 from rfl] at hF3 hF4
  obtain ⟨k, hk⟩ : ∃ k, k = fillL key 32 := ⟨_, rfl⟩
  obtain ⟨o, ho⟩ : ∃ k, k = fillL other 32 := ⟨_, rfl⟩
  obtain ⟨n, hn⟩ : ∃ k, k = fillL nonce 12 := ⟨_, rfl⟩
  obtain ⟨c, hc⟩ : ∃ k, k = fillL second 12 := ⟨_, rfl⟩
  rw [← hk] at hF1 hf1 hf3
  rw [← ho] at hF2 hf2
  rw [← hn] at hF3 hf1 hf2
  rw [← hc] at hF4 hf3
  have HF1 := Lib.hid hF1
  have HF2 := Lib.hid hF2
  have HF3 := Lib.hid hF3
  have HF4 := Lib.hid hF4
  clear hF1 hF2 hF3 hF4 hk ho hn hc
  obtain ⟨s, hs⟩ : ∃ s, s = sealL k n plain [] := ⟨_, rfl⟩
  have hS := fun w => sealC k n plain [] s hf1 hs (by omega) (by simp) w
  have hsl := sealL_length k n plain []
  have hop := open_seal k n plain [] hf1
  rw [← hs] at hsl hop
  have HS := Lib.hid hS
  have kem : (ByteArray.mk #[]) = bs [] := rfl
  have hcases : (k = o ∧ n = c) ∨ (k = o ∧ ¬ n = c) ∨ (¬ k = o ∧ n = c) ∨ (¬ k = o ∧ ¬ n = c) := by
    by_cases h1 : k = o <;> by_cases h2 : n = c <;> simp [h1, h2]
  rcases hcases with ⟨hko, hnc⟩ | ⟨hko, hnc⟩ | ⟨hko, hnc⟩ | ⟨hko, hnc⟩
  · subst hko hnc
    have hO1 := openC k n s [] plain true hop (by omega) (by simp)
    have HO1 := Lib.hid hO1
    have HO2 := Lib.hid hO1
    clear hS hs hop hO1 hf1 hf2 hf3
    go_enter Try.func18, Try.ntmps18
    go_wp2_with (first
      | (go_at_call 47; refine (alive7 _).mono ?_; rintro e w1 ⟨rfl, hp1⟩)
      | (go_at_call 48; refine (HF1.out _).mono ?_; rintro e w7 ⟨rfl, hp7⟩; clear HF1)
      | (go_at_call 48; refine (HF2.out _).mono ?_; rintro e w8 ⟨rfl, hp8⟩; clear HF2)
      | (go_at_call 48; refine (HF3.out _).mono ?_; rintro e w9 ⟨rfl, hp9⟩; clear HF3)
      | (go_at_call 48; refine (HF4.out _).mono ?_; rintro e w10 ⟨rfl, hp10⟩)
      | (go_at_call 49; refine (HS.out _).mono ?_; rintro e w2 ⟨rfl, hp2⟩)
      | (go_at_call 51; refine (HO1.out.1 _).mono ?_; rintro e w3 ⟨rfl, hp3⟩)
      | (go_at_call 52; refine (HO1.out.2 _).mono ?_; rintro e w4 ⟨rfl, hp4⟩; clear HO1)
      | (go_at_call 51; refine (HO2.out.1 _).mono ?_; rintro e w5 ⟨rfl, hp5⟩)
      | (go_at_call 52; refine (HO2.out.2 _).mono ?_; rintro e w6 ⟨rfl, hp6⟩))
    go_ret
    exact ⟨by simp, ((((((((hp1.trans hp7).trans hp8).trans hp9).trans hp10).trans hp2).trans hp3).trans hp4).trans hp5).trans hp6⟩
  · subst hko
    have hO1 := openC k n s [] plain true hop (by omega) (by simp)
    have HO1 := Lib.hid hO1
    obtain ⟨p, q, hpq⟩ : ∃ p q, openR k c s [] = (p, q) := ⟨_, _, rfl⟩
    have hO2 := openC k c s [] p q hpq (by omega) (by simp)
    have HO2 := Lib.hid hO2
    have hne : (n == c) = false := beq_eq_false_iff_ne.2 hnc
    clear hS hs hop hO1 hO2 hf1 hf2 hf3 hpq hnc
    go_enter Try.func18, Try.ntmps18
    go_wp2_with (first
      | (go_at_call 47; refine (alive7 _).mono ?_; rintro e w1 ⟨rfl, hp1⟩)
      | (go_at_call 48; refine (HF1.out _).mono ?_; rintro e w7 ⟨rfl, hp7⟩; clear HF1)
      | (go_at_call 48; refine (HF2.out _).mono ?_; rintro e w8 ⟨rfl, hp8⟩; clear HF2)
      | (go_at_call 48; refine (HF3.out _).mono ?_; rintro e w9 ⟨rfl, hp9⟩; clear HF3)
      | (go_at_call 48; refine (HF4.out _).mono ?_; rintro e w10 ⟨rfl, hp10⟩)
      | (go_at_call 49; refine (HS.out _).mono ?_; rintro e w2 ⟨rfl, hp2⟩)
      | (go_at_call 51; refine (HO1.out.1 _).mono ?_; rintro e w3 ⟨rfl, hp3⟩)
      | (go_at_call 52; refine (HO1.out.2 _).mono ?_; rintro e w4 ⟨rfl, hp4⟩; clear HO1)
      | (go_at_call 51; refine (HO2.out.1 _).mono ?_; rintro e w5 ⟨rfl, hp5⟩)
      | (go_at_call 52; refine (HO2.out.2 _).mono ?_; rintro e w6 ⟨rfl, hp6⟩))
    go_ret
    exact ⟨by simp, ((((((((hp1.trans hp7).trans hp8).trans hp9).trans hp10).trans hp2).trans hp3).trans hp4).trans hp5).trans hp6⟩
  · subst hnc
    obtain ⟨p1, q1, hpq1⟩ : ∃ p q, openR o n s [] = (p, q) := ⟨_, _, rfl⟩
    have hO1 := openC o n s [] p1 q1 hpq1 (by omega) (by simp)
    have HO1 := Lib.hid hO1
    have hne1 : (k == o) = false := beq_eq_false_iff_ne.2 hko
    have hO2 := openC k n s [] plain true hop (by omega) (by simp)
    have HO2 := Lib.hid hO2
    clear hS hs hop hO1 hO2 hf1 hf2 hf3 hpq1 hko
    go_enter Try.func18, Try.ntmps18
    go_wp2_with (first
      | (go_at_call 47; refine (alive7 _).mono ?_; rintro e w1 ⟨rfl, hp1⟩)
      | (go_at_call 48; refine (HF1.out _).mono ?_; rintro e w7 ⟨rfl, hp7⟩; clear HF1)
      | (go_at_call 48; refine (HF2.out _).mono ?_; rintro e w8 ⟨rfl, hp8⟩; clear HF2)
      | (go_at_call 48; refine (HF3.out _).mono ?_; rintro e w9 ⟨rfl, hp9⟩; clear HF3)
      | (go_at_call 48; refine (HF4.out _).mono ?_; rintro e w10 ⟨rfl, hp10⟩)
      | (go_at_call 49; refine (HS.out _).mono ?_; rintro e w2 ⟨rfl, hp2⟩)
      | (go_at_call 51; refine (HO1.out.1 _).mono ?_; rintro e w3 ⟨rfl, hp3⟩)
      | (go_at_call 52; refine (HO1.out.2 _).mono ?_; rintro e w4 ⟨rfl, hp4⟩; clear HO1)
      | (go_at_call 51; refine (HO2.out.1 _).mono ?_; rintro e w5 ⟨rfl, hp5⟩)
      | (go_at_call 52; refine (HO2.out.2 _).mono ?_; rintro e w6 ⟨rfl, hp6⟩))
    go_ret
    exact ⟨by simp, ((((((((hp1.trans hp7).trans hp8).trans hp9).trans hp10).trans hp2).trans hp3).trans hp4).trans hp5).trans hp6⟩
  · obtain ⟨p1, q1, hpq1⟩ : ∃ p q, openR o n s [] = (p, q) := ⟨_, _, rfl⟩
    have hO1 := openC o n s [] p1 q1 hpq1 (by omega) (by simp)
    have HO1 := Lib.hid hO1
    have hne1 : (k == o) = false := beq_eq_false_iff_ne.2 hko
    obtain ⟨p, q, hpq⟩ : ∃ p q, openR k c s [] = (p, q) := ⟨_, _, rfl⟩
    have hO2 := openC k c s [] p q hpq (by omega) (by simp)
    have HO2 := Lib.hid hO2
    have hne : (n == c) = false := beq_eq_false_iff_ne.2 hnc
    clear hS hs hop hO1 hO2 hf1 hf2 hf3 hpq hnc hpq1 hko
    go_enter Try.func18, Try.ntmps18
    go_wp2_with (first
      | (go_at_call 47; refine (alive7 _).mono ?_; rintro e w1 ⟨rfl, hp1⟩)
      | (go_at_call 48; refine (HF1.out _).mono ?_; rintro e w7 ⟨rfl, hp7⟩; clear HF1)
      | (go_at_call 48; refine (HF2.out _).mono ?_; rintro e w8 ⟨rfl, hp8⟩; clear HF2)
      | (go_at_call 48; refine (HF3.out _).mono ?_; rintro e w9 ⟨rfl, hp9⟩; clear HF3)
      | (go_at_call 48; refine (HF4.out _).mono ?_; rintro e w10 ⟨rfl, hp10⟩)
      | (go_at_call 49; refine (HS.out _).mono ?_; rintro e w2 ⟨rfl, hp2⟩)
      | (go_at_call 51; refine (HO1.out.1 _).mono ?_; rintro e w3 ⟨rfl, hp3⟩)
      | (go_at_call 52; refine (HO1.out.2 _).mono ?_; rintro e w4 ⟨rfl, hp4⟩; clear HO1)
      | (go_at_call 51; refine (HO2.out.1 _).mono ?_; rintro e w5 ⟨rfl, hp5⟩)
      | (go_at_call 52; refine (HO2.out.2 _).mono ?_; rintro e w6 ⟨rfl, hp6⟩))
    go_ret
    exact ⟨by simp, ((((((((hp1.trans hp7).trans hp8).trans hp9).trans hp10).trans hp2).trans hp3).trans hp4).trans hp5).trans hp6⟩
set_option maxRecDepth 100000 in
set_option maxHeartbeats 6400000 in
theorem boxEmpty_walk (s0 : ByteArray) (_ : s0.size ≤ maxLen) (s1 : ByteArray) (_ : s1.size ≤ maxLen) (s2 : ByteArray) (_ : s2.size ≤ maxLen) (cut : Int) (_ : (Lit.int .i64 cut).wf = true) (w : World) :
    Calls Try.prog 19 #[.string s0, .string s1, .string s2, .int .i64 cut] w fun e w' => e = .returned (.bool true) ∧ Pu w w' := by
  obtain ⟨key, rfl⟩ : ∃ b, s0 = bs b := ⟨_, bs_eta s0⟩
  obtain ⟨nonce, rfl⟩ : ∃ b, s1 = bs b := ⟨_, bs_eta s1⟩
  obtain ⟨more, rfl⟩ : ∃ b, s2 = bs b := ⟨_, bs_eta s2⟩
  by_cases g4 : 100 < more.length
  · have q4 : (100 : Int) < more.length := by omega
    go_enter Try.func19, Try.ntmps19
    go_wp2_with (go_at_call 47; refine (alive7 _).mono ?_; rintro e w1 ⟨rfl, hp1⟩)
    go_ret
    exact ⟨rfl, hp1⟩
  have q4 : decide ((100 : Int) < more.length) = false := by simp; omega
  have hF1 := fun w => lawFill key 32 (by decide) w
  have hF2 := fun w => lawFill nonce 12 (by decide) w
  rw [show ((32 : Nat) : Int) = 32 from rfl] at hF1
  rw [show ((12 : Nat) : Int) = 12 from rfl] at hF2
  have hf := fine_fill key nonce
  obtain ⟨k, hk⟩ : ∃ k, k = fillL key 32 := ⟨_, rfl⟩
  obtain ⟨n, hn⟩ : ∃ k, k = fillL nonce 12 := ⟨_, rfl⟩
  rw [← hk] at hF1 hf
  rw [← hn] at hF2 hf
  have HF1 := Lib.hid hF1
  have HF2 := Lib.hid hF2
  clear hF1 hF2 hk hn
  obtain ⟨s, hs⟩ : ∃ s, s = sealL k n [] more := ⟨_, rfl⟩
  have hS := fun w => sealC k n [] more s hf hs (by simp) (by omega) w
  have hsl := sealL_length k n [] more
  have hop := open_seal k n [] more hf
  rw [← hs] at hsl hop
  have hsl' : s.length = 16 := hsl
  have hO1 := fun w => (openC k n s more [] true hop (by omega) (by omega)).1 w
  obtain ⟨r, hr⟩ : ∃ r, r = cut.tmod 16 := ⟨_, rfl⟩
  have hr1 : -16 < r := by rw [hr]; exact Int.lt_tmod_of_pos cut (by decide)
  have hr2 : r < 16 := by rw [hr]; exact Int.tmod_lt_of_pos cut (by decide)
  have r0 := hr.symm
  obtain ⟨i, hi, hi16⟩ : ∃ i : Nat, (i : Int) = (r + 16).tmod 16 ∧ i < 16 := by
    refine ⟨((r + 16).tmod 16).toNat, ?_, ?_⟩
    · rw [Int.tmod_eq_emod_of_nonneg (by omega)]; omega
    · rw [Int.tmod_eq_emod_of_nonneg (by omega)]; omega
  have r1 : IntKind.i64.wrap (r + 16) = r + 16 := by rw [IntKind.wrap_i64]; omega
  have r2 := hi.symm
  have hi0 : (0 : Int) ≤ i := by omega
  have hi3 : (i : Int) ≤ s.length := by omega
  have hi4 : (i : Int) ≤ 16 := by omega
  have hO2 := fun w => (openC k n (s.take i) more [] false (openR_short k n more (by simp; omega)) (by simp; omega) (by omega)).1 w
  have HS := Lib.hid hS
  have HO1 := Lib.hid hO1
  have HO2 := Lib.hid hO2
  have kem : (ByteArray.mk #[]) = bs [] := rfl
  clear hS hs hop hO1 hO2 hf hr hi hsl
  go_enter Try.func19, Try.ntmps19
  go_wp2_with (first
    | (go_at_call 47; refine (alive7 _).mono ?_; rintro e w1 ⟨rfl, hp1⟩)
    | (go_at_call 48; refine (HF1.out _).mono ?_; rintro e w7 ⟨rfl, hp7⟩; clear HF1)
    | (go_at_call 48; refine (HF2.out _).mono ?_; rintro e w8 ⟨rfl, hp8⟩)
    | (go_at_call 49; refine (HS.out _).mono ?_; rintro e w2 ⟨rfl, hp2⟩)
    | (go_at_call 51; refine (HO1.out _).mono ?_; rintro e w3 ⟨rfl, hp3⟩; clear HO1)
    | (go_at_call 51; refine (HO2.out _).mono ?_; rintro e w4 ⟨rfl, hp4⟩))
  go_ret
  exact ⟨by simp, ((((hp1.trans hp7).trans hp8).trans hp2).trans hp3).trans hp4⟩
end Go.Proofs.Ytdjbhbefghihcaa
