/- Package derive. -/
import Derived.Test.YtdjbhbefghihcaaMac
import Derived.Test.YtdjbhbefghihcaaByte
set_option linter.unusedSimpArgs false
set_option linter.unusedVariables false
namespace Go.Esc
open Go Go.RowKit
def lastE (key info : Bs) : Nat → Bs
  | 0 => []
  | k+1 => macL key (lastE key info k ++ info ++ [UInt8.ofNat (k+1)])
def outE (key info : Bs) : Nat → Bs
  | 0 => []
  | k+1 => outE key info k ++ lastE key info (k+1)
def expandL (key info : Bs) (n : Nat) : Bs := (outE key info ((n + 31) / 32)).take n
def deriveL (secret salt info : Bs) : Bs := expandL (macL salt secret) info 32
end Go.Esc
namespace Go.Proofs.Ytdjbhbefghihcaa
open Go.RowKit Go.Esc
theorem lastE_length (key info : Bs) (k : Nat) : (lastE key info k).length ≤ 32 := by
  cases k with
  | zero => simp [lastE]
  | succ k => rw [lastE, macL_length]; omega
theorem outE_length (key info : Bs) (k : Nat) : (outE key info k).length = 32 * k := by
  induction k with
  | zero => rfl
  | succ k ih => rw [outE, List.length_append, ih, lastE, macL_length]; omega
theorem expandL_length (key info : Bs) (n : Nat) : (expandL key info n).length = n := by
  rw [expandL, List.length_take, outE_length]; omega
set_option maxRecDepth 100000 in
set_option maxHeartbeats 1600000 in
theorem expand (key info : Bs) (n : Int) (h : key.length ≤ 100000) (h2 : info.length ≤ 700000) (h0 : 0 ≤ n) (hm : n ≤ 8160) (w : World) :
    Calls Try.prog 55 #[S key, S info, .int .i64 n] w fun e w' => e = .returned (.tuple #[S (expandL key info n.toNat), .bool true]) ∧ Pu w w' := by
  obtain ⟨N, rfl⟩ := Int.eq_ofNat_of_zero_le h0
  have q1 : decide ((N : Int) < 0) = false := by simp
  have q2 : decide ((8160 : Int) < N) = false := by simp; omega
  have q3 : ¬ ((N : Int) < 0) := by omega
  have q4 : ¬ ((8160 : Int) < N) := by omega
  go_enter Try.func55, Try.ntmps55
  go_wp2_with fail
  go_loopw [8, 9, 10] (fun v l i wr => ∃ (k K : Nat), K = k + 1 ∧ 32 * k < N + 32 ∧ v = S (outE key info k) ∧ l = S (lastE key info k) ∧ i = .int .i64 (K : Int) ∧ Pu w wr) (fun _ _ i _ => N + 32 - 32 * (intOf i).toNat)
  case atStart => exact ⟨0, 1, rfl, by omega, rfl, rfl, rfl, Pu.refl _⟩
  case round =>
    obtain ⟨k, K, hK, hkn, rfl, rfl, rfl, hpu⟩ := hrel
    have hol := outE_length key info k
    have hll := lastE_length key info k
    have hnl : lastE key info (k + 1) = macL key (lastE key info k ++ info ++ [UInt8.ofNat (k+1)]) := rfl
    have hno : outE key info (k + 1) = outE key info k ++ lastE key info (k + 1) := rfl
    have hnl2 : (lastE key info (k + 1)).length = 32 := macL_length _ _
    obtain ⟨o, ho⟩ : ∃ o, o = outE key info k := ⟨_, rfl⟩
    obtain ⟨l, hl⟩ : ∃ o, o = lastE key info k := ⟨_, rfl⟩
    obtain ⟨l2, hl2⟩ : ∃ o, o = lastE key info (k+1) := ⟨_, rfl⟩
    rw [← ho] at hol hno ⊢
    rw [← hl] at hll hnl ⊢
    rw [← hl2] at hnl hno hnl2
    by_cases hlt : 32 * k < N
    · have hlt' : (o.length : Int) < N := by omega
      have hK256 : K < 256 := by omega
      have hmod : (K : Int) % 256 = K := by omega
      have hcv := one_byte_eq (P := Try.prog) wr K hK256 27 9 5 Try.underlying27 Try.underlying5 Try.underlying9
      obtain ⟨c1, hc1⟩ : ∃ c, c = UInt8.ofNat K := ⟨_, rfl⟩
      rw [← hc1] at hcv
      have hM := fun w => macOf key (l ++ (info ++ [c1])) (by omega) (by simp; omega) w
      rw [show macL key (l ++ (info ++ [c1])) = l2 by rw [hnl, hc1, hK, List.append_assoc]] at hM
      have HM := Lib.hid hM
      have z1 : ¬ (9223372036854775807 < l.length + info.length) := by omega
      have z2 : ¬ (9223372036854775807 < l.length + info.length + 1) := by omega
      have z2b : ¬ (9223372036854775807 < l.length + (info.length + 1)) := by omega
      have z3 : ¬ (9223372036854775807 < o.length + l2.length) := by omega
      have z4 : ¬ (9223372036854775807 < o.length + 32) := by omega
      have HO := Lib.hid ho
      have HL := Lib.hid hl
      have HL2 := Lib.hid hl2
      have HNO := Lib.hid hno
      have HKK := Lib.hid hK
      have HC1 := Lib.hid hc1
      clear hM ho hl hl2 hno hnl hK hc1
      go_wp2_with (go_at_call 63; refine (HM.out _).mono ?_; rintro e w1 ⟨rfl, hp1⟩)
      go_roundw
      case rel =>
        have hKK := HKK.out
        exact ⟨k + 1, K + 1, by omega, by omega, by rw [HNO.out], by rw [HL2.out], by go_num, (hpu.alloc _).trans hp1⟩
      case measure => have hKK := HKK.out; simp [intOf]; omega
    · have hlt' : decide ((o.length : Int) < N) = false := by simp; omega
      have hlt2 : (N : Int) ≤ o.length := by omega
      have hk : k = (N + 31) / 32 := by omega
      have hfin : expandL key info N = o.take N := by rw [expandL, ← hk, ho]
      have HF := Lib.hid hfin
      clear hfin ho hl hl2 hno hnl hK hk
      go_wp2_with fail
      go_ret2
      exact ⟨by rw [show ((N : Int)).toNat = N from rfl, HF.out]; rfl, hpu⟩
theorem expand_no (key info : Bs) (n : Int) (h : n < 0 ∨ 8160 < n) (w : World) :
    Calls Try.prog 55 #[S key, S info, .int .i64 n] w fun e w' => e = .returned (.tuple #[S [], .bool false]) ∧ Pu w w' := by
  by_cases h1 : n < 0
  · go_enter Try.func55, Try.ntmps55
    go_wp2_with fail
    go_ret2
    exact ⟨rfl, Pu.refl _⟩
  · have q1 : decide (n < 0) = false := by simp; omega
    have q2 : (8160 : Int) < n := by omega
    go_enter Try.func55, Try.ntmps55
    go_wp2_with fail
    go_ret2
    exact ⟨rfl, Pu.refl _⟩
theorem extract (salt secret : Bs) (h : salt.length ≤ 100000) (h2 : secret.length ≤ 800000) (w : World) :
    Calls Try.prog 57 #[S salt, S secret] w fun e w' => e = .returned (S (macL salt secret)) ∧ Pu w w' := by
  have hM := fun w => macOf salt secret h h2 w
  have HM := Lib.hid hM
  clear hM
  go_enter Try.func57, Try.ntmps57
  go_wp2_with (go_at_call 63; refine (HM.out _).mono ?_; rintro e w1 ⟨rfl, hp1⟩)
  go_ret
  exact ⟨rfl, hp1⟩
theorem deriveKey (secret salt info : Bs) (h : salt.length ≤ 100000) (h2 : secret.length ≤ 800000) (h3 : info.length ≤ 700000) (w : World) :
    Calls Try.prog 59 #[S secret, S salt, S info] w fun e w' => e = .returned (S (deriveL secret salt info)) ∧ Pu w w' := by
  have hM := fun w => extract salt secret h h2 w
  obtain ⟨k, hk⟩ : ∃ k, k = macL salt secret := ⟨_, rfl⟩
  have hkl : k.length = 32 := by rw [hk]; exact macL_length _ _
  have hE := fun w => expand k info 32 (by omega) h3 (by decide) (by decide) w
  obtain ⟨r, hr⟩ : ∃ r, r = expandL k info 32 := ⟨_, rfl⟩
  rw [show (32 : Int).toNat = 32 from rfl, ← hr] at hE
  rw [← hk] at hM
  have hfin : deriveL secret salt info = r := by rw [deriveL, ← hk, ← hr]
  have HM := Lib.hid hM
  have HE := Lib.hid hE
  have HF := Lib.hid hfin
  clear hM hE hk hr hfin
  go_enter Try.func59, Try.ntmps59
  go_wp2_with (first
    | (go_at_call 57; refine (HM.out _).mono ?_; rintro e w1 ⟨rfl, hp1⟩)
    | (go_at_call 55; refine (HE.out _).mono ?_; rintro e w2 ⟨rfl, hp2⟩))
  go_ret
  exact ⟨by rw [HF.out]; rfl, hp1.trans hp2⟩
end Go.Proofs.Ytdjbhbefghihcaa
