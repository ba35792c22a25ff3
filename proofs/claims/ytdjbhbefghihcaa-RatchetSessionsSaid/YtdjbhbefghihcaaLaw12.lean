/- Chapter 12: the first call, RatchetApart, RatchetSteps, RatchetEpochs. -/
import Derived.Test.YtdjbhbefghihcaaRatchet
set_option linter.unusedSimpArgs false
set_option linter.unusedVariables false
namespace Go.Esc
open Go Go.RowKit
theorem beN_putB8 (v : Nat) (h : v < 18446744073709551616) : beN (putB v 8) = v := by
  simp only [putB, beN, List.foldl_cons, List.foldl_nil, UInt8.toNat_ofNat']
  omega
theorem nonceL_inj {a b : Nat} (ha : a < 18446744073709551616) (hb : b < 18446744073709551616) (h : nonceL a = nonceL b) : a = b := by
  have : putB a 8 = putB b 8 := List.append_cancel_left h
  rw [← beN_putB8 a ha, ← beN_putB8 b hb, this]
theorem bnd64 {n : Int} (h : (Lit.int .i64 n).wf = true) : -9223372036854775808 ≤ n ∧ n ≤ 9223372036854775807 := by
  simp [Lit.wf, IntKind.min, IntKind.max, IntKind.signed, IntKind.bits] at h
  omega
end Go.Esc
namespace Go.Proofs.Ytdjbhbefghihcaa
open Go.RowKit Go.Esc
set_option maxRecDepth 100000 in
set_option maxHeartbeats 3200000 in
theorem alive12 (w : World) : Calls Try.prog 66 #[] w fun e w' => e = .returned (.bool true) ∧ Pu w w' := by
  have hF1 := fun w => fill [107] 32 (by decide) (by decide) w
  have hF2 := fun w => fill [] 10 (by decide) (by decide) w
  obtain ⟨k, hk⟩ : ∃ k, k = fillL [107] 32 := ⟨_, rfl⟩
  have hkl : k.length = 32 := by rw [hk]; rfl
  rw [← hk] at hF1
  have hA := fun w => ratchetAt k 2 (by omega) (by decide) (by decide) w
  have hN1 := fun w => next k (by omega) w
  obtain ⟨k1, hk1⟩ : ∃ k1, k1 = nextL k := ⟨_, rfl⟩
  have hk1l : k1.length = 32 := by rw [hk1]; exact nextL_length _
  have hN2 := fun w => next k1 (by omega) w
  obtain ⟨k2, hk2⟩ : ∃ k2, k2 = nextL k1 := ⟨_, rfl⟩
  have hk2l : k2.length = 32 := by rw [hk2]; exact nextL_length _
  rw [show turnL k (2 : Int).toNat = k2 by rw [hk2, hk1]; rfl] at hA
  rw [← hk1] at hN1
  rw [← hk2] at hN2
  have hO := fun w => nonce 258 (by decide) w
  obtain ⟨x, hx⟩ : ∃ x, x = nonceL 258 := ⟨_, rfl⟩
  obtain ⟨y, hy⟩ : ∃ y, y = fillL [] 10 := ⟨_, rfl⟩
  have hxy : y ++ [1, 2] = x := by rw [hx, hy]; decide
  have hyl : y.length = 10 := by rw [hy]; rfl
  rw [← hx] at hO
  rw [← hy] at hF2
  have k12 : (ByteArray.mk #[1, 2]) = bs [1, 2] := rfl
  have hE := fun w => epoch 17 (by decide) w
  rw [show (if (17 : Int) < 0 then (0 : Int) else 17 / 8) = 2 by decide] at hE
  have HF1 := Lib.hid hF1
  have HF2 := Lib.hid hF2
  have HA := Lib.hid hA
  have HN1 := Lib.hid hN1
  have HN2 := Lib.hid hN2
  have HO := Lib.hid hO
  have HE := Lib.hid hE
  clear hF1 hF2 hA hN1 hN2 hO hE hk hk1 hk2 hx hy
  go_enter Try.func66, Try.ntmps66
  go_wp2_with (first
    | (go_at_call 48; first
       | (refine (HF1.out _).mono ?_; rintro e w1 ⟨rfl, rfl⟩; clear HF1)
       | (refine (HF2.out _).mono ?_; rintro e w1 ⟨rfl, rfl⟩))
    | (go_at_call 69; refine (HA.out _).mono ?_; rintro e w2 ⟨rfl, hp2⟩)
    | (go_at_call 72; first
       | (refine (HN1.out _).mono ?_; rintro e w3 ⟨rfl, hp3⟩; clear HN1)
       | (refine (HN2.out _).mono ?_; rintro e w4 ⟨rfl, hp4⟩))
    | (go_at_call 68; refine (HE.out _).mono ?_; rintro e w5 ⟨rfl, rfl⟩)
    | (go_at_call 67; refine (HO.out _).mono ?_; rintro e w6 ⟨rfl, hp6⟩))
  go_ret
  exact ⟨rfl, ((hp2.trans hp3).trans hp4).trans hp6⟩
set_option maxRecDepth 100000 in
set_option maxHeartbeats 3200000 in
theorem ratchetApart_walk (a : Int) (ha : (Lit.int .i64 a).wf = true) (b : Int) (hb : (Lit.int .i64 b).wf = true) (w : World) :
    Calls Try.prog 30 #[.int .i64 a, .int .i64 b] w fun e w' => e = .returned (.bool true) ∧ Pu w w' := by
  have ha2 : a < 9223372036854775808 := by have := bnd64 ha; omega
  have hb2 : b < 9223372036854775808 := by have := bnd64 hb; omega
  by_cases g1 : a < 0
  · skip
    go_enter Try.func30, Try.ntmps30
    go_wp2_with (go_at_call 66; refine (alive12 _).mono ?_; rintro e w1 ⟨rfl, hp1⟩)
    go_ret
    exact ⟨rfl, hp1⟩
  have q1 : decide (a < 0) = false := by simp; omega
  by_cases g2 : b < 0
  · skip
    go_enter Try.func30, Try.ntmps30
    go_wp2_with (go_at_call 66; refine (alive12 _).mono ?_; rintro e w1 ⟨rfl, hp1⟩)
    go_ret
    exact ⟨rfl, hp1⟩
  have q2 : decide (b < 0) = false := by simp; omega
  by_cases g3 : a = b
  · skip
    go_enter Try.func30, Try.ntmps30
    go_wp2_with (go_at_call 66; refine (alive12 _).mono ?_; rintro e w1 ⟨rfl, hp1⟩)
    go_ret
    exact ⟨rfl, hp1⟩
  have q3 : (a == b) = false := by simp; exact g3
  obtain ⟨x, rfl⟩ := Int.eq_ofNat_of_zero_le (by omega : 0 ≤ a)
  obtain ⟨y, rfl⟩ := Int.eq_ofNat_of_zero_le (by omega : 0 ≤ b)
  have hne : nonceL x ≠ nonceL y := fun h => g3 (by have := nonceL_inj (by omega) (by omega) h; omega)
  have hN1 := fun w => nonce x (by omega) w
  have hN2 := fun w => nonce y (by omega) w
  have hE1 := fun w => epoch (x : Int) (by omega) w
  have hE2 := fun w => epoch (y : Int) (by omega) w
  obtain ⟨m, hm⟩ : ∃ m, m = nonceL x := ⟨_, rfl⟩
  obtain ⟨n, hn⟩ : ∃ n, n = nonceL y := ⟨_, rfl⟩
  obtain ⟨c, hc⟩ : ∃ c : Int, c = (x : Int) / 8 := ⟨_, rfl⟩
  obtain ⟨d, hd⟩ : ∃ c : Int, c = (y : Int) / 8 := ⟨_, rfl⟩
  rw [← hm] at hN1 hne
  rw [← hn] at hN2 hne
  rw [if_neg (by omega), ← hc] at hE1
  rw [if_neg (by omega), ← hd] at hE2
  have t1 : ((x : Int)).tdiv 8 = c := by rw [hc]; exact Int.tdiv_eq_ediv_of_nonneg (by omega)
  have t2 : ((y : Int)).tdiv 8 = d := by rw [hd]; exact Int.tdiv_eq_ediv_of_nonneg (by omega)
  have t3 : IntKind.i64.wrap c = c := by rw [IntKind.wrap_i64]; omega
  have t4 : IntKind.i64.wrap d = d := by rw [IntKind.wrap_i64]; omega
  have hne2 : ¬ (m = n) := hne
  have HN1 := Lib.hid hN1
  have HN2 := Lib.hid hN2
  have HE1 := Lib.hid hE1
  have HE2 := Lib.hid hE2
  clear hN1 hN2 hE1 hE2 hm hn hc hd hne
  go_enter Try.func30, Try.ntmps30
  go_wp2_with (first
    | (go_at_call 66; refine (alive12 _).mono ?_; rintro e w1 ⟨rfl, hp1⟩)
    | (go_at_call 67; first
       | (refine (HN1.out _).mono ?_; rintro e w2 ⟨rfl, hp2⟩; clear HN1)
       | (refine (HN2.out _).mono ?_; rintro e w3 ⟨rfl, hp3⟩))
    | (go_at_call 68; first
       | (refine (HE1.out _).mono ?_; rintro e w4 ⟨rfl, rfl⟩; clear HE1)
       | (refine (HE2.out _).mono ?_; rintro e w5 ⟨rfl, rfl⟩)))
  go_ret
  exact ⟨by simp [hne2], (hp1.trans hp2).trans hp3⟩
set_option maxRecDepth 100000 in
set_option maxHeartbeats 3200000 in
theorem ratchetEpochs_walk (n : Int) (hn : (Lit.int .i64 n).wf = true) (w : World) :
    Calls Try.prog 33 #[.int .i64 n] w fun e w' => e = .returned (.bool true) ∧ Pu w w' := by
  by_cases g1 : n < 0
  · skip
    go_enter Try.func33, Try.ntmps33
    go_wp2_with (go_at_call 66; refine (alive12 _).mono ?_; rintro e w1 ⟨rfl, hp1⟩)
    go_ret
    exact ⟨rfl, hp1⟩
  have q1 : decide (n < 0) = false := by simp; omega
  by_cases g2 : 1099511627776 < n
  · skip
    go_enter Try.func33, Try.ntmps33
    go_wp2_with (go_at_call 66; refine (alive12 _).mono ?_; rintro e w1 ⟨rfl, hp1⟩)
    go_ret
    exact ⟨rfl, hp1⟩
  have q2 : decide (1099511627776 < n) = false := by simp; omega
  obtain ⟨q, hq⟩ : ∃ q, q = n / 8 := ⟨_, rfl⟩
  have hE1 := fun w => epoch n (by omega) w
  have hE2 := fun w => epoch (n + 8) (by omega) w
  have hE3 := fun w => epoch (-5) (by omega) w
  rw [if_neg (by omega), ← hq] at hE1
  rw [if_neg (by omega), show (n + 8) / 8 = q + 1 by omega] at hE2
  rw [if_pos (by omega)] at hE3
  have e1 : q * 8 ≤ n := by omega
  have e2 : n < (q + 1) * 8 := by omega
  have e3 : IntKind.i64.wrap (q * 8) = q * 8 := by rw [IntKind.wrap_i64]; omega
  have e4 : IntKind.i64.wrap (q + 1) = q + 1 := by rw [IntKind.wrap_i64]; omega
  have e5 : IntKind.i64.wrap ((q + 1) * 8) = (q + 1) * 8 := by rw [IntKind.wrap_i64]; omega
  have e6 : IntKind.i64.wrap (n + 8) = n + 8 := by rw [IntKind.wrap_i64]; omega
  have HE1 := Lib.hid hE1
  have HE2 := Lib.hid hE2
  have HE3 := Lib.hid hE3
  clear hE1 hE2 hE3 hq
  go_enter Try.func33, Try.ntmps33
  go_wp2_with (first
    | (go_at_call 66; refine (alive12 _).mono ?_; rintro e w1 ⟨rfl, hp1⟩)
    | (go_at_call 68; first
       | (refine (HE1.out _).mono ?_; rintro e w4 ⟨rfl, rfl⟩; clear HE1)
       | (refine (HE2.out _).mono ?_; rintro e w5 ⟨rfl, rfl⟩; clear HE2)
       | (refine (HE3.out _).mono ?_; rintro e w6 ⟨rfl, rfl⟩)))
  go_ret
  exact ⟨rfl, hp1⟩
end Go.Proofs.Ytdjbhbefghihcaa
