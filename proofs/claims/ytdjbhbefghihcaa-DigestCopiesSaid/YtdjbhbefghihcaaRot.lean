/- Turns of words: bits.RotateLeft32, octet.Left, digest.right, digest.turned, and the document's Left. -/
import Derived.Test.YtdjbhbefghihcaaWords
import Derived.Test.YtdjbhbefghihcaaOctet
import Derived.Test.YtdjbhbefghihcaaRegion
set_option linter.unusedSimpArgs false
set_option linter.unusedVariables false
namespace Go.Proofs.Ytdjbhbefghihcaa
open Go.RowKit Go.Esc
set_option maxHeartbeats 400000 in
theorem rotateLeft (x : BitVec 32) (k : Nat) (hk : k < 32) (w : World) :
    Calls Try.prog 164 #[V x, .int .i64 (k : Int)] w fun e w' => e = .returned (V (rotl x k)) ∧ w' = w := by
  have ha : Go.bits .and .u64 (k : Int) 31 = k := by
    rw [u64_and _ _ (by omega) (by omega) (by omega) (by omega)]
    show ((k &&& 31 : Nat) : Int) = k
    rw [show (31 : Nat) = 2^5 - 1 from rfl, Nat.and_two_pow_sub_one_of_lt_two_pow (by omega)]
  have h0 : (0 : Int) ≤ 32 - k := by omega
  have h1 : (0 : Int) ≤ k := by omega
  go_enter Try.func164, Try.ntmps164
  go_wp2_with fail
  go_ret
  exact ⟨rfl, rfl⟩

set_option maxHeartbeats 400000 in
/-- A turn to the left, by whatever number. -/
theorem left (x : BitVec 32) (n : Int) (_ : -1000 ≤ n) (_ : n ≤ 1000) (w : World) :
    Calls Try.prog 159 #[V x, .int .i64 n] w fun e w' => e = .returned (V (rotl x (n % 32).toNat)) ∧ w' = w := by
  have h1 : -32 < n.tmod 32 := Int.lt_tmod_of_pos n (by decide)
  have h2 : n.tmod 32 < 32 := Int.tmod_lt_of_pos n (by decide)
  have h3 : n.tmod 32 % 32 = n % 32 := by
    have := Int.tmod_add_mul_tdiv n 32
    omega
  obtain ⟨m, hm⟩ : ∃ m, m = (n % 32).toNat := ⟨_, rfl⟩
  have h4 : n % 32 = (m : Int) := by omega
  rw [← hm]
  have HM := Lib.hid hm
  have hr := rotateLeft x m (by omega) w
  have HR := Lib.hid hr
  have h5 : n.tmod 32 % 32 = (m : Int) := by omega
  clear hm h3 h4 hr
  go_enter Try.func159, Try.ntmps159
  go_wp2_with (go_at_call 164; refine HR.out.mono ?_; rintro e w1 ⟨rfl, rfl⟩)
  go_ret
  exact ⟨rfl, rfl⟩

set_option maxHeartbeats 400000 in
theorem right (x : BitVec 32) (n : Int) (h1 : 0 < n) (h2 : n < 32) (w : World) :
    Calls Try.prog 153 #[V x, .int .i64 n] w fun e w' => e = .returned (V (rotr x n.toNat)) ∧ w' = w := by
  have e : (-n % 32).toNat = (32 - n.toNat % 32) % 32 := by omega
  have hl := left x (-n) (by omega) (by omega) w
  rw [e] at hl
  have HL := Lib.hid hl
  clear hl e
  go_enter Try.func153, Try.ntmps153
  go_wp2_with (go_at_call 159; refine HL.out.mono ?_; rintro e w1 ⟨rfl, rfl⟩)
  go_ret
  exact ⟨rfl, rfl⟩

set_option maxHeartbeats 400000 in
theorem turned (x : BitVec 32) (a b c : Int) (a1 : 0 < a) (a2 : a < 32) (b1 : 0 < b) (b2 : b < 32) (c1 : 0 < c) (c2 : c < 32) (w : World) :
    Calls Try.prog 135 #[V x, .int .i64 a, .int .i64 b, .int .i64 c] w fun e w' => e = .returned (V (rotr x a.toNat ^^^ rotr x b.toNat ^^^ rotr x c.toNat)) ∧ w' = w := by
  go_enter Try.func135, Try.ntmps135
  go_wp2_with (go_at_call 153; refine (right _ _ (by assumption) (by assumption) _).mono ?_; rintro e w1 ⟨rfl, rfl⟩)
  go_ret
  exact ⟨rfl, rfl⟩

theorem rotl_zero (x : BitVec 32) : rotl x 0 = x := by
  have h : x >>> 32 = 0#32 := by
    apply BitVec.eq_of_toNat_eq
    rw [BitVec.toNat_ushiftRight, Nat.shiftRight_eq_div_pow, Nat.div_eq_of_lt x.isLt]; rfl
  simp [rotl, h]
set_option maxHeartbeats 400000 in
theorem refLeft (x : BitVec 32) (n : Int) (_ : -1000 ≤ n) (_ : n ≤ 1000) (w : World) :
    Calls Try.prog 82 #[V x, .int .i64 n] w fun e w' => e = .returned (V (rotl x (n % 32).toNat)) ∧ w' = w := by
  have h1 : -32 < n.tmod 32 := Int.lt_tmod_of_pos n (by decide)
  have h2 : n.tmod 32 < 32 := Int.tmod_lt_of_pos n (by decide)
  have h3 : n.tmod 32 % 32 = n % 32 := by
    have := Int.tmod_add_mul_tdiv n 32
    omega
  obtain ⟨m, hm⟩ : ∃ m, m = (n % 32).toNat := ⟨_, rfl⟩
  have h4 : n % 32 = (m : Int) := by omega
  rw [← hm]
  have HM := Lib.hid hm
  have h5 : n.tmod 32 % 32 = (m : Int) := by omega
  have h6 : m < 32 := by omega
  clear hm h3 h4
  by_cases hz : m = 0
  · subst hz
    go_enter Try.func82, Try.ntmps82
    go_wp2_with fail
    go_ret
    exact ⟨by rw [rotl_zero]; rfl, rfl⟩
  · have hk : ((m : Int) == 0) = false := by simp; omega
    have h7 : (0 : Int) ≤ 32 - m := by omega
    go_enter Try.func82, Try.ntmps82
    go_wp2_with fail
    go_ret
    exact ⟨rfl, rfl⟩
end Go.Proofs.Ytdjbhbefghihcaa
