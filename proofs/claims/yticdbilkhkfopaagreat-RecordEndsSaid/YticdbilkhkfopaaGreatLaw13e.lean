/- Chapter 13: RecordEnds. -/
import Derived.Test.YticdbilkhkfopaaGreatT18
set_option linter.unusedSimpArgs false
set_option linter.unusedVariables false
namespace Go.Proofs.YticdbilkhkfopaaGreat
open Go.RowKit Go.Esc
theorem padL_long {p : Bs} (h : 2047 ≤ p.length) : padL p = none := by
  unfold padL
  rw [padSize_none (by omega)]; rfl
theorem OutAt.more {G : Nat → Prop} {w : World} {ob : Nat} {key : Bs} {m n : Nat} (h : OutAt G w ob key m n) : OutAt G w ob key (m+1) n := by
  obtain ⟨⟨tb, mb, h1, ⟨f, c, t1, t2, t3, t4⟩, h3, h4⟩, h5, h6⟩ := h
  exact ⟨⟨tb, mb, h1, ⟨f, c, t1, t2, by omega, t4⟩, h3, h4⟩, h5, h6⟩
set_option maxRecDepth 100000 in
set_option maxHeartbeats 3200000 in
theorem recordEnds_walk (s : ByteArray) (hs : s.size ≤ maxLen) (s' : ByteArray) (_ : s'.size ≤ maxLen) (n : Int) (_ : (Lit.int .i64 n).wf = true) (w : World) :
    Calls Tryz.prog 12 #[.string s, .string s', .int .i64 n] w fun e w' => e = .returned (.bool true) ∧ Pu w w' := by
  obtain ⟨k0, rfl⟩ : ∃ a, s = bs a := ⟨_, bs_eta s⟩
  obtain ⟨b, rfl⟩ : ∃ c, s' = bs c := ⟨_, bs_eta s'⟩
  have hk0 : k0.length ≤ 9223372036854775807 := by rw [bs_size] at hs; unfold maxLen at hs; omega
  clear hs
  by_cases hg : 100 < b.length ∨ n < 0 ∨ 420 < n
  · rcases (by omega : 100 < b.length ∨ (b.length ≤ 100 ∧ n < 0) ∨ (b.length ≤ 100 ∧ 0 ≤ n ∧ 420 < n)) with h1 | ⟨h1, h2⟩ | ⟨h1, h2, h3⟩
    · have q1 : (100 : Int) < b.length := by omega
      clear hg
      go_enter Tryz.func12, Tryz.ntmps12
      go_wp2_with (go_at_call 53; refine (alive13 _).mono ?_; rintro e w1 ⟨rfl, hp1⟩)
      go_ret
      exact ⟨rfl, hp1⟩
    · have q1 : ¬ (100 : Int) < b.length := by omega
      clear hg
      go_enter Tryz.func12, Tryz.ntmps12
      go_wp2_with (go_at_call 53; refine (alive13 _).mono ?_; rintro e w1 ⟨rfl, hp1⟩)
      go_ret
      exact ⟨rfl, hp1⟩
    · have q1 : ¬ (100 : Int) < b.length := by omega
      have q2 : ¬ n < 0 := by omega
      clear hg
      go_enter Tryz.func12, Tryz.ntmps12
      go_wp2_with (go_at_call 53; refine (alive13 _).mono ?_; rintro e w1 ⟨rfl, hp1⟩)
      go_ret
      exact ⟨rfl, hp1⟩
  · obtain ⟨h1, h2, h3⟩ : b.length ≤ 100 ∧ 0 ≤ n ∧ n ≤ 420 := by omega
    obtain ⟨N, rfl⟩ := Int.eq_ofNat_of_zero_le h2
    have q1 : ¬ (100 : Int) < b.length := by omega
    have q2 : ¬ (N : Int) < 0 := by omega
    have q3 : ¬ (420 : Int) < N := by omega
    have hN : N ≤ 420 := by omega
    obtain ⟨pp, hpp⟩ := padL_short (p := b) (by omega)
    have hfl := fun w => fillAny k0 32 hk0 (by decide) w
    have hfz := fun w => fillAny [] 2047 (by decide) (by decide) w
    have hkl := fillL_length k0 32
    have hlz := fillL_length [] 2047
    obtain ⟨key, hkey⟩ : ∃ k, k = fillL k0 32 := ⟨_, rfl⟩
    obtain ⟨long, hlong⟩ : ∃ k, k = fillL [] 2047 := ⟨_, rfl⟩
    rw [← hkey] at hfl hkl
    rw [← hlong] at hfz hlz
    have hpz := padL_long (p := long) (by omega)
    have HF := Lib.hid hfl
    have HFZ := Lib.hid hfz
    have HPP := Lib.hid hpp
    have HPZ := Lib.hid hpz
    have HKL := Lib.hid hkl
    have HLZ := Lib.hid hlz
    clear hg hfl hpp hkl hkey h2 h3 hfz hlz hlong hpz
    have T1 := Lib.hid True.intro
    go_enter Tryz.func12, Tryz.ntmps12
    go_wp2_with (first
      | (go_at_call 53; refine (alive13 _).mono ?_; rintro e w1 ⟨rfl, hp1⟩)
      | (go_at_call 26; clear T1; refine (HF.out _).mono ?_; rintro e w2 ⟨rfl, rfl⟩)
      | (go_at_call 26; refine (HFZ.out _).mono ?_; rintro e w2 ⟨rfl, rfl⟩)
      | (go_at_call 54; refine (newOut key HKL.out _).mono ?_; rintro e w3 ⟨ob, rfl, ho3, hp3⟩))
    go_loopw [9] (fun x wr => ∃ (k : Nat) (G : Nat → Prop), k ≤ N ∧ x = .int .i64 (k : Int) ∧ OutAt G wr ob key k (min k 400) ∧ (∀ g, G g → w.heap.size ≤ g) ∧ Pu w wr) (fun x _ => N - (intOf x).toNat)
    case atStart => exact ⟨0, _, Nat.zero_le _, rfl, ho3, Gw.low (fun _ h => h.elim) hp1.size, hp1.trans hp3⟩
    case round =>
      clear ho3
      obtain ⟨k, G, hk, rfl, ho, hlow, hpu⟩ := hrel
      by_cases hlt : k < N
      · have hk1 : (k : Int) < N := by omega
        by_cases hk4 : k < 400
        · have hk5 : (k : Int) < 400 := by omega
          have hmn : min k 400 = k := by omega
          have hmn2 : min (k+1) 400 = k + 1 := by omega
          have hmi : min ((k : Int) + 1) 400 = k + 1 := by omega
          rw [hmn] at ho
          have hfin : ∀ w7, (∃ w5, Pu wr w5 ∧ OutAt (Gw G w5 w7) w7 ob key (k+1) (k+1) ∧ Cg G w5 w7) → ∃ (k' : Nat) (G : Nat → Prop), k' ≤ N ∧ Value.int .i64 ((k : Int) + 1) = .int .i64 (k' : Int) ∧ OutAt G w7 ob key k' (min k' 400) ∧ (∀ g, G g → w.heap.size ≤ g) ∧ Pu w w7 := by
            rintro w7 ⟨w5, hp5, ho6, hc6⟩
            exact ⟨k+1, _, by omega, by go_num, by rw [hmn2]; exact ho6, Gw.low hlow (hpu.trans hp5).size, Cg.since (hpu.trans hp5) hc6 hlow⟩
          have HFIN := Lib.hid hfin
          clear hfin
          by_cases h7 : (k : Int) % 50 = 7
          · go_wp2_with (first
              | (go_at_call 55; refine (sealLarge ho long (by have := HLZ.out; omega) HPZ.out).mono ?_; clear HPZ; rintro e w5 ⟨rfl, hp5⟩; have ho5 := ho.pu hp5)
              | (go_at_call 55; refine (sealOk ho5 HKL.out b _ (by omega) HPP.out hk4 (by omega)).mono ?_; rintro e w6 ⟨rfl, ho6, hc6⟩)
              | (go_at_call 56; refine (outNext ho6).mono ?_; rintro e w7 ⟨rfl, rfl⟩))
            go_roundw
            case rel => exact HFIN.out _ ⟨w5, hp5, ho6, hc6⟩
            case measure => simp [intOf]; omega
          · go_wp2_with (first
              | (go_at_call 55; refine (sealOk ho HKL.out b _ (by omega) HPP.out hk4 (by omega)).mono ?_; rintro e w6 ⟨rfl, ho6, hc6⟩)
              | (go_at_call 56; refine (outNext ho6).mono ?_; rintro e w7 ⟨rfl, rfl⟩))
            go_roundw
            case rel => exact HFIN.out _ ⟨wr, Pu.refl _, ho6, hc6⟩
            case measure => simp [intOf]; omega
        · have hk5 : ¬ (k : Int) < 400 := by omega
          have hmn : min k 400 = 400 := by omega
          have hmn2 : min (k+1) 400 = 400 := by omega
          have hmi : min ((k : Int) + 1) 400 = 400 := by omega
          rw [hmn] at ho
          have hfin : ∀ w7, Pu wr w7 → ∃ (k' : Nat) (G : Nat → Prop), k' ≤ N ∧ Value.int .i64 ((k : Int) + 1) = .int .i64 (k' : Int) ∧ OutAt G w7 ob key k' (min k' 400) ∧ (∀ g, G g → w.heap.size ≤ g) ∧ Pu w w7 := by
            intro w7 hp5
            exact ⟨k+1, G, by omega, by go_num, by rw [hmn2]; exact (ho.pu hp5).more, hlow, hpu.trans hp5⟩
          have HFIN := Lib.hid hfin
          clear hfin
          by_cases h7 : (k : Int) % 50 = 7
          · go_wp2_with (first
              | (go_at_call 55; refine (sealLarge ho long (by have := HLZ.out; omega) HPZ.out).mono ?_; clear HPZ; rintro e w5 ⟨rfl, hp5⟩; have ho5 := ho.pu hp5)
              | (go_at_call 55; refine (sealEnd ho5 b _ (by omega) HPP.out (by omega)).mono ?_; rintro e w6 ⟨rfl, hp6⟩; have ho6 := ho5.pu hp6)
              | (go_at_call 56; refine (outNext ho6).mono ?_; rintro e w7 ⟨rfl, rfl⟩))
            go_roundw
            case rel => exact HFIN.out _ (hp5.trans hp6)
            case measure => simp [intOf]; omega
          · go_wp2_with (first
              | (go_at_call 55; refine (sealEnd ho b _ (by omega) HPP.out (by omega)).mono ?_; rintro e w6 ⟨rfl, hp6⟩; have ho6 := ho.pu hp6)
              | (go_at_call 56; refine (outNext ho6).mono ?_; rintro e w7 ⟨rfl, rfl⟩))
            go_roundw
            case rel => exact HFIN.out _ hp6
            case measure => simp [intOf]; omega
      · obtain rfl : k = N := by omega
        have hlt' : decide ((k : Int) < k) = false := by simp
        go_wp2_with fail
        go_ret
        exact ⟨rfl, hpu⟩
end Go.Proofs.YticdbilkhkfopaaGreat
