/- Chapter 12: RatchetSteps. -/
import Derived.Test.YtdjbhbefghihcaaLaw12
set_option linter.unusedSimpArgs false
set_option linter.unusedVariables false
namespace Go.Proofs.Ytdjbhbefghihcaa
open Go.RowKit Go.Esc
set_option maxRecDepth 100000 in
set_option maxHeartbeats 3200000 in
theorem ratchetSteps_walk (s : ByteArray) (_ : s.size ≤ maxLen) (a : Int) (ha : (Lit.int .i64 a).wf = true) (b : Int) (hb : (Lit.int .i64 b).wf = true) (w : World) :
    Calls Try.prog 31 #[.string s, .int .i64 a, .int .i64 b] w fun e w' => e = .returned (.bool true) ∧ Pu w w' := by
  obtain ⟨k, rfl⟩ : ∃ b, s = bs b := ⟨_, bs_eta s⟩
  by_cases g0 : 100 < k.length
  · have q0 : (100 : Int) < k.length := by omega
    go_enter Try.func31, Try.ntmps31
    go_wp2_with (go_at_call 66; refine (alive12 _).mono ?_; rintro e w1 ⟨rfl, hp1⟩)
    go_ret
    exact ⟨rfl, hp1⟩
  have q0 : decide ((100 : Int) < k.length) = false := by simp; omega
  by_cases g1 : a < 0
  · skip
    go_enter Try.func31, Try.ntmps31
    go_wp2_with (go_at_call 66; refine (alive12 _).mono ?_; rintro e w1 ⟨rfl, hp1⟩)
    go_ret
    exact ⟨rfl, hp1⟩
  have q1 : decide (a < 0) = false := by simp; omega
  by_cases g2 : b < 0
  · skip
    go_enter Try.func31, Try.ntmps31
    go_wp2_with (go_at_call 66; refine (alive12 _).mono ?_; rintro e w1 ⟨rfl, hp1⟩)
    go_ret
    exact ⟨rfl, hp1⟩
  have q2 : decide (b < 0) = false := by simp; omega
  by_cases g3 : 12 < a ∨ 12 < b
  · obtain ⟨sm, hsm⟩ : ∃ sm, sm = IntKind.i64.wrap (a + b) := ⟨_, rfl⟩
    have hsm' := hsm.symm
    have hbb := bnd64 ha
    have hbb2 := bnd64 hb
    have hfin : 12 < sm ∨ 12 < a ∨ (a ≤ 12 ∧ 12 < b) := by omega
    clear hsm
    by_cases h1 : 12 < sm
    · skip
      go_enter Try.func31, Try.ntmps31
      go_wp2_with (go_at_call 66; refine (alive12 _).mono ?_; rintro e w1 ⟨rfl, hp1⟩)
      go_ret
      exact ⟨rfl, hp1⟩
    have h1' : decide (12 < sm) = false := by simp; omega
    by_cases h2 : 12 < a
    · skip
      go_enter Try.func31, Try.ntmps31
      go_wp2_with (go_at_call 66; refine (alive12 _).mono ?_; rintro e w1 ⟨rfl, hp1⟩)
      go_ret
      exact ⟨rfl, hp1⟩
    have h2' : decide (12 < a) = false := by simp; omega
    have h3 : 12 < b := by omega
    go_enter Try.func31, Try.ntmps31
    go_wp2_with (go_at_call 66; refine (alive12 _).mono ?_; rintro e w1 ⟨rfl, hp1⟩)
    go_ret
    exact ⟨rfl, hp1⟩
  by_cases g4 : 12 < a + b
  · have hw : IntKind.i64.wrap (a + b) = a + b := by rw [IntKind.wrap_i64]; omega
    go_enter Try.func31, Try.ntmps31
    go_wp2_with (go_at_call 66; refine (alive12 _).mono ?_; rintro e w1 ⟨rfl, hp1⟩)
    go_ret
    exact ⟨rfl, hp1⟩
  have hw : IntKind.i64.wrap (a + b) = a + b := by rw [IntKind.wrap_i64]; omega
  have q3 : decide (12 < a) = false := by simp; omega
  have q4 : decide (12 < b) = false := by simp; omega
  have q5 : decide (12 < a + b) = false := by simp; omega
  obtain ⟨x, rfl⟩ := Int.eq_ofNat_of_zero_le (by omega : 0 ≤ a)
  obtain ⟨y, rfl⟩ := Int.eq_ofNat_of_zero_le (by omega : 0 ≤ b)
  have hA1 := fun w => ratchetAt k (x : Int) (by omega) (by omega) (by omega) w
  have hA2 := fun w => ratchetAt (turnL k x) (y : Int) (turnL_length _ _ (by omega)) (by omega) (by omega) w
  have hA3 := fun w => ratchetAt k ((x : Int) + y) (by omega) (by omega) (by omega) w
  rw [show ((x : Int)).toNat = x from rfl] at hA1
  rw [show ((y : Int)).toNat = y from rfl, turnL_add] at hA2
  rw [show ((x : Int) + y).toNat = x + y by omega] at hA3
  obtain ⟨u, hu⟩ : ∃ u, u = turnL k x := ⟨_, rfl⟩
  obtain ⟨v, hv⟩ : ∃ v, v = turnL k (x + y) := ⟨_, rfl⟩
  rw [← hu] at hA1 hA2
  rw [← hv] at hA2 hA3
  have HA1 := Lib.hid hA1
  have HA2 := Lib.hid hA2
  have HA3 := Lib.hid hA3
  have HV := Lib.hid hv
  clear hA1 hA2 hA3 hu hv
  by_cases hz : x + y = 0
  · have hz1 : ((x : Int) + y == 0) = true := by simp; omega
    go_enter Try.func31, Try.ntmps31
    go_wp2_with (first
      | (go_at_call 66; refine (alive12 _).mono ?_; rintro e w1 ⟨rfl, hp1⟩)
      | (go_at_call 69; first
         | (refine (HA1.out _).mono ?_; rintro e w2 ⟨rfl, hp2⟩; clear HA1)
         | (refine (HA2.out _).mono ?_; rintro e w3 ⟨rfl, hp3⟩; clear HA2)
         | (refine (HA3.out _).mono ?_; rintro e w4 ⟨rfl, hp4⟩)))
    go_ret
    exact ⟨rfl, ((hp1.trans hp2).trans hp3).trans hp4⟩
  · have hz1 : ¬ ((x : Int) + y = 0) := by omega
    have hz2 : ((x : Int) + y == 0) = false := by simp; omega
    have hvl : v.length = 32 := by rw [HV.out]; exact turnL_length2 _ _ (by omega)
    go_enter Try.func31, Try.ntmps31
    go_wp2_with (first
      | (go_at_call 66; refine (alive12 _).mono ?_; rintro e w1 ⟨rfl, hp1⟩)
      | (go_at_call 69; first
         | (refine (HA1.out _).mono ?_; rintro e w2 ⟨rfl, hp2⟩; clear HA1)
         | (refine (HA2.out _).mono ?_; rintro e w3 ⟨rfl, hp3⟩; clear HA2)
         | (refine (HA3.out _).mono ?_; rintro e w4 ⟨rfl, hp4⟩)))
    go_ret
    exact ⟨rfl, ((hp1.trans hp2).trans hp3).trans hp4⟩
end Go.Proofs.Ytdjbhbefghihcaa
