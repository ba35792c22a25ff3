/- Chapter 13: RecordEpochs. -/
import Derived.Test.YticdbilkhkfopaaGreatT18
set_option linter.unusedSimpArgs false
set_option linter.unusedVariables false
namespace Go.Proofs.YticdbilkhkfopaaGreat
open Go.RowKit Go.Esc
set_option maxRecDepth 100000 in
set_option maxHeartbeats 3200000 in
theorem recordEpochs_walk (s : ByteArray) (hs : s.size ≤ maxLen) (s' : ByteArray) (_ : s'.size ≤ maxLen) (n : Int) (_ : (Lit.int .i64 n).wf = true) (w : World) :
    Calls Tryz.prog 19 #[.string s, .string s', .int .i64 n] w fun e w' => e = .returned (.bool true) ∧ Pu w w' := by
  obtain ⟨k0, rfl⟩ : ∃ a, s = bs a := ⟨_, bs_eta s⟩
  obtain ⟨b, rfl⟩ : ∃ c, s' = bs c := ⟨_, bs_eta s'⟩
  have hk0 : k0.length ≤ 9223372036854775807 := by rw [bs_size] at hs; unfold maxLen at hs; omega
  clear hs
  by_cases hg : 30 < b.length ∨ n < 0 ∨ 60 < n
  · rcases (by omega : 30 < b.length ∨ (b.length ≤ 30 ∧ n < 0) ∨ (b.length ≤ 30 ∧ 0 ≤ n ∧ 60 < n)) with h1 | ⟨h1, h2⟩ | ⟨h1, h2, h3⟩
    · have q1 : (30 : Int) < b.length := by omega
      clear hg
      go_enter Tryz.func19, Tryz.ntmps19
      go_wp2_with (go_at_call 53; refine (alive13 _).mono ?_; rintro e w1 ⟨rfl, hp1⟩)
      go_ret
      exact ⟨rfl, hp1⟩
    · have q1 : ¬ (30 : Int) < b.length := by omega
      clear hg
      go_enter Tryz.func19, Tryz.ntmps19
      go_wp2_with (go_at_call 53; refine (alive13 _).mono ?_; rintro e w1 ⟨rfl, hp1⟩)
      go_ret
      exact ⟨rfl, hp1⟩
    · have q1 : ¬ (30 : Int) < b.length := by omega
      have q2 : ¬ n < 0 := by omega
      clear hg
      go_enter Tryz.func19, Tryz.ntmps19
      go_wp2_with (go_at_call 53; refine (alive13 _).mono ?_; rintro e w1 ⟨rfl, hp1⟩)
      go_ret
      exact ⟨rfl, hp1⟩
  · obtain ⟨h1, h2, h3⟩ : b.length ≤ 30 ∧ 0 ≤ n ∧ n ≤ 60 := by omega
    obtain ⟨N, rfl⟩ := Int.eq_ofNat_of_zero_le h2
    have q1 : ¬ (30 : Int) < b.length := by omega
    have q2 : ¬ (N : Int) < 0 := by omega
    have q3 : ¬ (60 : Int) < N := by omega
    have hN : N ≤ 60 := by omega
    obtain ⟨pp, hpp⟩ := padL_short (p := b) (by omega)
    have hfl := fun w => fillAny k0 32 hk0 (by decide) w
    have hkl := fillL_length k0 32
    obtain ⟨key, hkey⟩ : ∃ k, k = fillL k0 32 := ⟨_, rfl⟩
    rw [← hkey] at hfl hkl
    have HF := Lib.hid hfl
    have HPP := Lib.hid hpp
    have HKL := Lib.hid hkl
    clear hg hfl hpp hkl hkey h2 h3
    go_enter Tryz.func19, Tryz.ntmps19
    go_wp2_with (first
      | (go_at_call 53; refine (alive13 _).mono ?_; rintro e w1 ⟨rfl, hp1⟩)
      | (go_at_call 26; refine (HF.out _).mono ?_; rintro e w2 ⟨rfl, rfl⟩)
      | (go_at_call 54; refine (newOut key HKL.out _).mono ?_; rintro e w3 ⟨ob, rfl, ho3, hp3⟩)
      | (go_at_call 59; refine (newIn key HKL.out _).mono ?_; rintro e w4 ⟨ib, rfl, hi4, hp4⟩
         have oi4 := OI.start (hp1.trans hp3) hp1 hp3 ho3 hi4 hp4))
    go_loopw [9] (fun x wr => ∃ (k : Nat) (Go Gi : Nat → Prop), k ≤ N ∧ x = .int .i64 (k : Int) ∧ OI Go Gi w wr ob ib key key k k k (inOrd k)) (fun x _ => N - (intOf x).toNat)
    case atStart => exact ⟨0, _, _, Nat.zero_le _, rfl, oi4⟩
    case round =>
      clear oi4 ho3 hi4
      obtain ⟨k, Go, Gi, hk, rfl, oi⟩ := hrel
      by_cases hlt : k < N
      · have hk1 : (k : Int) < N := by omega
        have hrl := recL_le key k HPP.out
        have hso := openS_ord key k b pp HKL.out HPP.out (by omega)
        obtain ⟨r, hr⟩ : ∃ r, r = recL key k b := ⟨_, rfl⟩
        rw [← hr] at hrl hso
        have HR := Lib.hid hr
        have HSO := Lib.hid hso
        clear hr hso
        go_wp2_with (first
          | (go_at_call 55; refine (oiSeal oi HKL.out b _ HPP.out (by omega) (by omega) (by omega)).mono ?_; rw [← HR.out]; rintro e w5 ⟨rfl, oi5, hc5⟩)
          | (go_at_call 61; refine (oiOpen oi5 HKL.out r (by omega) (by omega)).mono ?_; rw [HSO.out]; rintro e w6 ⟨v6, rfl, ho6, oi6, hc6⟩
             obtain ⟨g6, q6, rfl, -, -⟩ := own_form ho6 (by simp)
             have ce0 := ho6.cellAt 0 (by simp)
             simp at ce0)
          | (go_at_call 62; refine (inNext oi6.i).mono ?_; rintro e w7 ⟨rfl, rfl⟩)
          | (go_at_call 67; refine (inWaits oi6.i).mono ?_; rintro e w8 ⟨rfl, rfl⟩))
        go_roundw
        case rel => exact ⟨k + 1, _, _, by omega, by go_num, oi6⟩
        case measure => simp [intOf]; omega
      · obtain rfl : k = N := by omega
        have hlt' : decide ((k : Int) < k) = false := by simp
        go_wp2_with fail
        go_ret
        exact ⟨rfl, oi.since⟩
end Go.Proofs.YticdbilkhkfopaaGreat
