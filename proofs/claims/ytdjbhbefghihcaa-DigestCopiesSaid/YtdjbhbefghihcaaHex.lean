/- Digits. -/
import Derived.Test.YtdjbhbefghihcaaStep
import Derived.Test.YtdjbhbefghihcaaOctet
import Derived.Test.YtdjbhbefghihcaaRegion
set_option linter.unusedSimpArgs false
set_option linter.unusedVariables false
namespace Go.Proofs.Ytdjbhbefghihcaa
open Go.RowKit Go.Esc
theorem hexD_ne : ∀ i k : Nat, i < 16 → k < 16 → i ≠ k → ((((hexD.getD i 0).toNat : Int) == ((hexD.getD k 0).toNat : Int)) = false) := by
  have : ∀ i k : Fin 16, i ≠ k → ((((hexD.getD i.1 0).toNat : Int) == ((hexD.getD k.1 0).toNat : Int)) = false) := by decide +kernel
  intro i k hi hk hne
  exact this ⟨i, hi⟩ ⟨k, hk⟩ (by simpa using hne)
theorem hexD_get (i : Nat) (h : i < hexD.length) : hexD[i] = hexD.getD i 0 := by simp [h]
set_option maxHeartbeats 800000 in
theorem digit (k : Nat) (hk : k < 16) (w : World) :
    Calls Try.prog 158 #[.int .u8 ((hexD.getD k 0).toNat : Int)] w fun e w' => e = .returned (.int .i64 (k : Int)) ∧ w' = w := by
  obtain ⟨c, hc⟩ : ∃ c, c = (hexD.getD k 0).toNat := ⟨_, rfl⟩
  rw [← hc]
  have HC := Lib.hid hc
  clear hc
  obtain ⟨hd, hhd⟩ : ∃ l, l = hexD := ⟨_, rfl⟩
  have hlen : hd.length = 16 := by rw [hhd]; rfl
  have hk0 : (ByteArray.mk #[48, 49, 50, 51, 52, 53, 54, 55, 56, 57, 97, 98, 99, 100, 101, 102]) = bs hd := by rw [hhd]; rfl
  have HHD := Lib.hid hhd
  clear hhd
  go_enter Try.func158, Try.ntmps158
  go_wp2_with fail
  go_loop [4] (fun i => ∃ n : Nat, n ≤ k ∧ i = .int .i64 n) (fun i => 16 - (intOf i).toNat)
  case atStart => exact ⟨0, by omega, rfl⟩
  case round =>
    obtain ⟨n, hn, rfl⟩ := hrel
    have h16 : (n : Int) < 16 := by omega
    have h0 : (0 : Int) ≤ n := by omega
    have hl : n < hd.length := by omega
    by_cases hlt : n < k
    · obtain ⟨d, hd2⟩ : ∃ d, hd[n] = d := ⟨_, rfl⟩
      have hne : (((d.toNat : Int)) == (c : Int)) = false := by
        rw [← hd2, HC.out]
        have := hexD_ne n k (by omega) hk (by omega)
        rw [← hexD_get n (by rw [← HHD.out]; exact hl)] at this
        have e : hd[n] = hexD[n]'(by rw [← HHD.out]; exact hl) := by simp only [HHD.out]
        rw [e]; exact this
      go_wp2_with fail
      trace_state
      go_round
      case rel => exact ⟨n + 1, by omega, by go_num⟩
      case measure => simp [intOf]; omega
    · obtain rfl : n = k := by omega
      obtain ⟨d, hd2⟩ : ∃ d, hd[n] = d := ⟨_, rfl⟩
      have heq : (((d.toNat : Int)) == (c : Int)) = true := by
        rw [← hd2, HC.out]
        have e : hd[n] = hexD[n]'(by rw [← HHD.out]; exact hl) := by simp only [HHD.out]
        rw [e, hexD_get]; simp
      go_wp2_with fail
      go_ret
      exact ⟨rfl, rfl⟩
end Go.Proofs.Ytdjbhbefghihcaa
