/- Chapter 12: RatchetTells. -/
import Derived.Test.YtdjbhbefghihcaaLaw12d
set_option linter.unusedSimpArgs false
set_option linter.unusedVariables false
namespace Go.Proofs.Ytdjbhbefghihcaa
open Go.RowKit Go.Esc
set_option maxRecDepth 100000 in
set_option maxHeartbeats 3200000 in
theorem ratchetTells_walk (s : ByteArray) (_ : s.size ≤ maxLen) (ep : Int) (hep : (Lit.int .i64 ep).wf = true) (seq : Int) (hseq : (Lit.int .i64 seq).wf = true) (s1 : ByteArray) (_ : s1.size ≤ maxLen) (s2 : ByteArray) (_ : s2.size ≤ maxLen) (w : World) :
    Calls Try.prog 34 #[.string s, .int .i64 ep, .int .i64 seq, .string s1, .string s2] w fun e w' => e = .returned (.bool true) ∧ Pu w w' := by
  obtain ⟨key, rfl⟩ : ∃ b, s = bs b := ⟨_, bs_eta s⟩
  obtain ⟨secret, rfl⟩ : ∃ b, s1 = bs b := ⟨_, bs_eta s1⟩
  obtain ⟨salt, rfl⟩ : ∃ b, s2 = bs b := ⟨_, bs_eta s2⟩
  have hsb := bnd64 hseq
  by_cases g1 : 100 < key.length
  · have q1 : (100 : Int) < key.length := by omega
    go_enter Try.func34, Try.ntmps34
    go_wp2_with (go_at_call 66; refine (alive12 _).mono ?_; rintro e w1 ⟨rfl, hp1⟩)
    go_ret
    exact ⟨rfl, hp1⟩
  have q1 : decide ((100 : Int) < key.length) = false := by simp; omega
  by_cases g2 : 100 < secret.length
  · have q2 : (100 : Int) < secret.length := by omega
    go_enter Try.func34, Try.ntmps34
    go_wp2_with (go_at_call 66; refine (alive12 _).mono ?_; rintro e w1 ⟨rfl, hp1⟩)
    go_ret
    exact ⟨rfl, hp1⟩
  have q2 : decide ((100 : Int) < secret.length) = false := by simp; omega
  by_cases g3 : 100 < salt.length
  · have q3 : (100 : Int) < salt.length := by omega
    go_enter Try.func34, Try.ntmps34
    go_wp2_with (go_at_call 66; refine (alive12 _).mono ?_; rintro e w1 ⟨rfl, hp1⟩)
    go_ret
    exact ⟨rfl, hp1⟩
  have q3 : decide ((100 : Int) < salt.length) = false := by simp; omega
  by_cases g4 : 12 < ep ∧ ep ≤ 100
  · have q4 : 12 < ep := g4.1
    have q5 : ep ≤ 100 := g4.2
    go_enter Try.func34, Try.ntmps34
    go_wp2_with (go_at_call 66; refine (alive12 _).mono ?_; rintro e w1 ⟨rfl, hp1⟩)
    go_ret
    exact ⟨rfl, hp1⟩
  have hS := fun w => session secret salt (by omega) (by omega) w
  have hRS := fun w => refSession secret salt (by omega) (by omega) w
  obtain ⟨u, hu⟩ : ∃ u, u = deriveL secret salt upW := ⟨_, rfl⟩
  obtain ⟨d, hd⟩ : ∃ u, u = deriveL secret salt downW := ⟨_, rfl⟩
  rw [show keysV secret salt = [S u, S d] by rw [keysV, ← hu, ← hd]] at hS hRS
  have hNX := fun w => next key (by omega) w
  have hT1 := fun w => refTurn key 1 (by omega) (by decide) w
  obtain ⟨nx, hnx⟩ : ∃ x, x = nextL key := ⟨_, rfl⟩
  rw [show turnL key 1 = nx by rw [hnx]; rfl] at hT1
  rw [← hnx] at hNX
  have HS := Lib.hid hS
  have HRS := Lib.hid hRS
  have HNX := Lib.hid hNX
  have HT1 := Lib.hid hT1
  have hemp : (ByteArray.mk #[]) = bs [] := rfl
  clear hS hRS hNX hT1 hnx hu hd
  have hkey : ∃ (e : Int) (n : Bs), (∀ w, Calls Try.prog 68 #[.int .i64 seq] w fun e' w' => e' = .returned (.int .i64 e) ∧ w' = w) ∧ (∀ w, Calls Try.prog 67 #[.int .i64 seq] w fun e' w' => e' = .returned (S n) ∧ Pu w w') ∧
      ((seq < 0 ∧ e = 0 ∧ n = []) ∨ (0 ≤ seq ∧ seq.tdiv 8 = e ∧ IntKind.i64.wrap e = e ∧ ∀ w, Calls Try.prog 71 #[.int .i64 seq] w fun e' w' => e' = .returned (S n) ∧ Pu w w')) := by
    by_cases h : seq < 0
    · refine ⟨0, [], fun w => ?_, fun w => nonce_no seq h w, .inl ⟨h, rfl, rfl⟩⟩
      have := epoch seq (by omega) w
      rwa [if_pos h] at this
    · obtain ⟨q, rfl⟩ := Int.eq_ofNat_of_zero_le (by omega : 0 ≤ seq)
      refine ⟨(q : Int) / 8, nonceL q, fun w => ?_, fun w => nonce q (by omega) w, .inr ⟨by omega, Int.tdiv_eq_ediv_of_nonneg (by omega), by rw [IntKind.wrap_i64]; omega, fun w => refNonce q (by omega) w⟩⟩
      have := epoch (q : Int) (by omega) w
      rwa [if_neg h] at this
  obtain ⟨e, n, hE, hN, hcase⟩ := hkey
  have HE := Lib.hid hE
  have HN := Lib.hid hN
  clear hE hN hsb
  rcases (by omega : ep < 0 ∨ 100 < ep ∨ (0 ≤ ep ∧ ep ≤ 12)) with h1 | h1 | ⟨h1, h2⟩
  · have hA := fun w => ratchetAt_no key ep (.inl h1) w
    have HA := Lib.hid hA
    have q4 : decide (12 < ep) = false := by simp; omega
    clear hA
    rcases hcase with ⟨hs, rfl, rfl⟩ | ⟨hs, t1, t2, hRN⟩
    · have q5 : decide (0 ≤ seq) = false := by simp; omega
      go_enter Try.func34, Try.ntmps34
      go_wp2_with (first
        | (go_at_call 66; refine (alive12 _).mono ?_; rintro e w1 ⟨rfl, hpu⟩)
        | (go_at_call 69; refine (HA.out _).mono ?_; rintro e w2 ⟨rfl, hp⟩; replace hpu := hpu.trans hp)
        | (go_at_call 70; first
           | (refine (HT.out _).mono ?_; rintro e w3 ⟨rfl, hp⟩; clear HT; replace hpu := hpu.trans hp)
           | (refine (HT1.out _).mono ?_; rintro e w3 ⟨rfl, hp⟩; replace hpu := hpu.trans hp))
        | (go_at_call 71; refine (HRN.out _).mono ?_; rintro e w2 ⟨rfl, hp⟩; replace hpu := hpu.trans hp)
        | (go_at_call 72; refine (HNX.out _).mono ?_; rintro e w2 ⟨rfl, hp⟩; replace hpu := hpu.trans hp)
        | (go_at_call 68; refine (HE.out _).mono ?_; rintro e w2 ⟨rfl, rfl⟩)
        | (go_at_call 67; refine (HN.out _).mono ?_; rintro e w2 ⟨rfl, hp⟩; replace hpu := hpu.trans hp)
        | (go_at_call 73; refine (HS.out _).mono ?_; rintro e w2 ⟨rfl, hp⟩; replace hpu := hpu.trans hp)
        | (go_at_call 74; refine (HRS.out _).mono ?_; rintro e w2 ⟨rfl, hp⟩; replace hpu := hpu.trans hp))
      go_ret
      exact ⟨by first | rfl | simp, hpu⟩
    · have HRN := Lib.hid hRN
      clear hRN
      go_enter Try.func34, Try.ntmps34
      go_wp2_with (first
        | (go_at_call 66; refine (alive12 _).mono ?_; rintro e w1 ⟨rfl, hpu⟩)
        | (go_at_call 69; refine (HA.out _).mono ?_; rintro e w2 ⟨rfl, hp⟩; replace hpu := hpu.trans hp)
        | (go_at_call 70; first
           | (refine (HT.out _).mono ?_; rintro e w3 ⟨rfl, hp⟩; clear HT; replace hpu := hpu.trans hp)
           | (refine (HT1.out _).mono ?_; rintro e w3 ⟨rfl, hp⟩; replace hpu := hpu.trans hp))
        | (go_at_call 71; refine (HRN.out _).mono ?_; rintro e w2 ⟨rfl, hp⟩; replace hpu := hpu.trans hp)
        | (go_at_call 72; refine (HNX.out _).mono ?_; rintro e w2 ⟨rfl, hp⟩; replace hpu := hpu.trans hp)
        | (go_at_call 68; refine (HE.out _).mono ?_; rintro e w2 ⟨rfl, rfl⟩)
        | (go_at_call 67; refine (HN.out _).mono ?_; rintro e w2 ⟨rfl, hp⟩; replace hpu := hpu.trans hp)
        | (go_at_call 73; refine (HS.out _).mono ?_; rintro e w2 ⟨rfl, hp⟩; replace hpu := hpu.trans hp)
        | (go_at_call 74; refine (HRS.out _).mono ?_; rintro e w2 ⟨rfl, hp⟩; replace hpu := hpu.trans hp))
      go_ret
      exact ⟨by first | rfl | simp, hpu⟩
  · have hA := fun w => ratchetAt_no key ep (.inr h1) w
    have HA := Lib.hid hA
    have q4 : 12 < ep := by omega
    have q5 : decide (ep ≤ 100) = false := by simp; omega
    have q6 : decide (ep < 0) = false := by simp; omega
    clear hA
    rcases hcase with ⟨hs, rfl, rfl⟩ | ⟨hs, t1, t2, hRN⟩
    · have q7 : decide (0 ≤ seq) = false := by simp; omega
      go_enter Try.func34, Try.ntmps34
      go_wp2_with (first
        | (go_at_call 66; refine (alive12 _).mono ?_; rintro e w1 ⟨rfl, hpu⟩)
        | (go_at_call 69; refine (HA.out _).mono ?_; rintro e w2 ⟨rfl, hp⟩; replace hpu := hpu.trans hp)
        | (go_at_call 70; first
           | (refine (HT.out _).mono ?_; rintro e w3 ⟨rfl, hp⟩; clear HT; replace hpu := hpu.trans hp)
           | (refine (HT1.out _).mono ?_; rintro e w3 ⟨rfl, hp⟩; replace hpu := hpu.trans hp))
        | (go_at_call 71; refine (HRN.out _).mono ?_; rintro e w2 ⟨rfl, hp⟩; replace hpu := hpu.trans hp)
        | (go_at_call 72; refine (HNX.out _).mono ?_; rintro e w2 ⟨rfl, hp⟩; replace hpu := hpu.trans hp)
        | (go_at_call 68; refine (HE.out _).mono ?_; rintro e w2 ⟨rfl, rfl⟩)
        | (go_at_call 67; refine (HN.out _).mono ?_; rintro e w2 ⟨rfl, hp⟩; replace hpu := hpu.trans hp)
        | (go_at_call 73; refine (HS.out _).mono ?_; rintro e w2 ⟨rfl, hp⟩; replace hpu := hpu.trans hp)
        | (go_at_call 74; refine (HRS.out _).mono ?_; rintro e w2 ⟨rfl, hp⟩; replace hpu := hpu.trans hp))
      go_ret
      exact ⟨by first | rfl | simp, hpu⟩
    · have HRN := Lib.hid hRN
      clear hRN
      go_enter Try.func34, Try.ntmps34
      go_wp2_with (first
        | (go_at_call 66; refine (alive12 _).mono ?_; rintro e w1 ⟨rfl, hpu⟩)
        | (go_at_call 69; refine (HA.out _).mono ?_; rintro e w2 ⟨rfl, hp⟩; replace hpu := hpu.trans hp)
        | (go_at_call 70; first
           | (refine (HT.out _).mono ?_; rintro e w3 ⟨rfl, hp⟩; clear HT; replace hpu := hpu.trans hp)
           | (refine (HT1.out _).mono ?_; rintro e w3 ⟨rfl, hp⟩; replace hpu := hpu.trans hp))
        | (go_at_call 71; refine (HRN.out _).mono ?_; rintro e w2 ⟨rfl, hp⟩; replace hpu := hpu.trans hp)
        | (go_at_call 72; refine (HNX.out _).mono ?_; rintro e w2 ⟨rfl, hp⟩; replace hpu := hpu.trans hp)
        | (go_at_call 68; refine (HE.out _).mono ?_; rintro e w2 ⟨rfl, rfl⟩)
        | (go_at_call 67; refine (HN.out _).mono ?_; rintro e w2 ⟨rfl, hp⟩; replace hpu := hpu.trans hp)
        | (go_at_call 73; refine (HS.out _).mono ?_; rintro e w2 ⟨rfl, hp⟩; replace hpu := hpu.trans hp)
        | (go_at_call 74; refine (HRS.out _).mono ?_; rintro e w2 ⟨rfl, hp⟩; replace hpu := hpu.trans hp))
      go_ret
      exact ⟨by first | rfl | simp, hpu⟩
  · obtain ⟨E, rfl⟩ := Int.eq_ofNat_of_zero_le h1
    have hA := fun w => ratchetAt key (E : Int) (by omega) h1 (by omega) w
    have hT := fun w => refTurn key E (by omega) (by omega) w
    obtain ⟨t, ht⟩ : ∃ t, t = turnL key E := ⟨_, rfl⟩
    rw [show ((E : Int)).toNat = E from rfl, ← ht] at hA
    rw [← ht] at hT
    have HA := Lib.hid hA
    have HT := Lib.hid hT
    have q4 : decide (12 < (E : Int)) = false := by simp; omega
    have q5 : decide (100 < (E : Int)) = false := by simp; omega
    have q6 : decide ((E : Int) < 0) = false := by simp
    clear hA hT ht
    rcases hcase with ⟨hs, rfl, rfl⟩ | ⟨hs, t1, t2, hRN⟩
    · have q7 : decide (0 ≤ seq) = false := by simp; omega
      go_enter Try.func34, Try.ntmps34
      go_wp2_with (first
        | (go_at_call 66; refine (alive12 _).mono ?_; rintro e w1 ⟨rfl, hpu⟩)
        | (go_at_call 69; refine (HA.out _).mono ?_; rintro e w2 ⟨rfl, hp⟩; replace hpu := hpu.trans hp)
        | (go_at_call 70; first
           | (refine (HT.out _).mono ?_; rintro e w3 ⟨rfl, hp⟩; clear HT; replace hpu := hpu.trans hp)
           | (refine (HT1.out _).mono ?_; rintro e w3 ⟨rfl, hp⟩; replace hpu := hpu.trans hp))
        | (go_at_call 71; refine (HRN.out _).mono ?_; rintro e w2 ⟨rfl, hp⟩; replace hpu := hpu.trans hp)
        | (go_at_call 72; refine (HNX.out _).mono ?_; rintro e w2 ⟨rfl, hp⟩; replace hpu := hpu.trans hp)
        | (go_at_call 68; refine (HE.out _).mono ?_; rintro e w2 ⟨rfl, rfl⟩)
        | (go_at_call 67; refine (HN.out _).mono ?_; rintro e w2 ⟨rfl, hp⟩; replace hpu := hpu.trans hp)
        | (go_at_call 73; refine (HS.out _).mono ?_; rintro e w2 ⟨rfl, hp⟩; replace hpu := hpu.trans hp)
        | (go_at_call 74; refine (HRS.out _).mono ?_; rintro e w2 ⟨rfl, hp⟩; replace hpu := hpu.trans hp))
      go_ret
      exact ⟨by first | rfl | simp, hpu⟩
    · have HRN := Lib.hid hRN
      clear hRN
      go_enter Try.func34, Try.ntmps34
      go_wp2_with (first
        | (go_at_call 66; refine (alive12 _).mono ?_; rintro e w1 ⟨rfl, hpu⟩)
        | (go_at_call 69; refine (HA.out _).mono ?_; rintro e w2 ⟨rfl, hp⟩; replace hpu := hpu.trans hp)
        | (go_at_call 70; first
           | (refine (HT.out _).mono ?_; rintro e w3 ⟨rfl, hp⟩; clear HT; replace hpu := hpu.trans hp)
           | (refine (HT1.out _).mono ?_; rintro e w3 ⟨rfl, hp⟩; replace hpu := hpu.trans hp))
        | (go_at_call 71; refine (HRN.out _).mono ?_; rintro e w2 ⟨rfl, hp⟩; replace hpu := hpu.trans hp)
        | (go_at_call 72; refine (HNX.out _).mono ?_; rintro e w2 ⟨rfl, hp⟩; replace hpu := hpu.trans hp)
        | (go_at_call 68; refine (HE.out _).mono ?_; rintro e w2 ⟨rfl, rfl⟩)
        | (go_at_call 67; refine (HN.out _).mono ?_; rintro e w2 ⟨rfl, hp⟩; replace hpu := hpu.trans hp)
        | (go_at_call 73; refine (HS.out _).mono ?_; rintro e w2 ⟨rfl, hp⟩; replace hpu := hpu.trans hp)
        | (go_at_call 74; refine (HRS.out _).mono ?_; rintro e w2 ⟨rfl, hp⟩; replace hpu := hpu.trans hp))
      go_ret
      exact ⟨by first | rfl | simp, hpu⟩
end Go.Proofs.Ytdjbhbefghihcaa
