/- Chapter 13: RecordShapes. -/
import Derived.Test.YticdbilkhkfopaaGreatT18
import Derived.Test.YticdbilkhkfopaaGreatRefPad
set_option linter.unusedSimpArgs false
set_option linter.unusedVariables false
namespace Go.Proofs.YticdbilkhkfopaaGreat
open Go.RowKit Go.Esc
theorem padL_size {b p : Bs} (h : padL b = some p) : padSize (b.length : Int) = some p.length := by
  unfold padL at h
  cases hs : padSize (b.length : Int) with
  | none => rw [hs] at h; cases h
  | some s =>
    rw [hs] at h
    simp only [Option.map_some, Option.some.injEq] at h
    have := padSize_some hs
    rw [← h]
    simp [putB_length]
    omega
set_option maxRecDepth 100000 in
set_option maxHeartbeats 3200000 in
theorem recordShapes_walk (s1 : ByteArray) (hs1 : s1.size ≤ maxLen) (s2 : ByteArray) (hs2 : s2.size ≤ maxLen) (s3 : ByteArray) (_ : s3.size ≤ maxLen) (s4 : ByteArray) (_ : s4.size ≤ maxLen) (w : World) :
    Calls Tryz.prog 13 #[.string s1, .string s2, .string s3, .string s4] w fun e w' => e = .returned (.bool true) ∧ Pu w w' := by
  obtain ⟨k1, rfl⟩ : ∃ a, s1 = bs a := ⟨_, bs_eta s1⟩
  obtain ⟨k2, rfl⟩ : ∃ a, s2 = bs a := ⟨_, bs_eta s2⟩
  obtain ⟨a, rfl⟩ : ∃ a, s3 = bs a := ⟨_, bs_eta s3⟩
  obtain ⟨b, rfl⟩ : ∃ a, s4 = bs a := ⟨_, bs_eta s4⟩
  have hk1 : k1.length ≤ 9223372036854775807 := by rw [bs_size] at hs1; unfold maxLen at hs1; omega
  have hk2 : k2.length ≤ 9223372036854775807 := by rw [bs_size] at hs2; unfold maxLen at hs2; omega
  clear hs1 hs2
  by_cases hg : 2046 < a.length ∨ 2046 < b.length
  · rcases (by omega : 2046 < a.length ∨ (a.length ≤ 2046 ∧ 2046 < b.length)) with h1 | ⟨h1, h2⟩
    · have q1 : (2046 : Int) < a.length := by omega
      clear hg
      go_enter Tryz.func13, Tryz.ntmps13
      go_wp2_with (go_at_call 53; refine (alive13 _).mono ?_; rintro e w1 ⟨rfl, hp1⟩)
      go_ret
      exact ⟨rfl, hp1⟩
    · have q1 : ¬ (2046 : Int) < a.length := by omega
      have q2 : (2046 : Int) < b.length := by omega
      clear hg
      go_enter Tryz.func13, Tryz.ntmps13
      go_wp2_with (go_at_call 53; refine (alive13 _).mono ?_; rintro e w1 ⟨rfl, hp1⟩)
      go_ret
      exact ⟨rfl, hp1⟩
  · have q1 : ¬ (2046 : Int) < a.length := by omega
    have q2 : ¬ (2046 : Int) < b.length := by omega
    obtain ⟨pa, hpa⟩ := padL_short (p := a) (by omega)
    obtain ⟨pb, hpb⟩ := padL_short (p := b) (by omega)
    have hsa := fun w => refSize (a.length : Int) w
    have hsb := fun w => refSize (b.length : Int) w
    rw [padL_size hpa] at hsa
    rw [padL_size hpb] at hsb
    have hf1 := fun w => fillAny k1 32 hk1 (by decide) w
    have hf2 := fun w => fillAny k2 32 hk2 (by decide) w
    have hl1 := fillL_length k1 32
    have hl2 := fillL_length k2 32
    obtain ⟨key1, he1⟩ : ∃ k, k = fillL k1 32 := ⟨_, rfl⟩
    obtain ⟨key2, he2⟩ : ∃ k, k = fillL k2 32 := ⟨_, rfl⟩
    rw [← he1] at hf1 hl1
    rw [← he2] at hf2 hl2
    have hra := recL_length key1 0 a
    have hrb := recL_length key2 0 b
    rw [hpa] at hra
    rw [hpb] at hrb
    simp only [Option.getD_some] at hra hrb
    have hpa2 := padL_le hpa
    have hpb2 := padL_le hpb
    obtain ⟨ra, era⟩ : ∃ r, r = recL key1 0 a := ⟨_, rfl⟩
    obtain ⟨rb', erb⟩ : ∃ r, r = recL key2 0 b := ⟨_, rfl⟩
    rw [← era] at hra
    rw [← erb] at hrb
    obtain ⟨za, hza⟩ : ∃ z, z = pa.length := ⟨_, rfl⟩
    obtain ⟨zb, hzb⟩ : ∃ z, z = pb.length := ⟨_, rfl⟩
    simp only [Option.getD_some, Option.isSome_some] at hsa hsb
    rw [← hza] at hsa hra hpa2
    rw [← hzb] at hsb hrb hpb2
    have i1 : (ra.length : Int) = (za : Int) + 24 := by omega
    have i2 : (rb'.length : Int) = (zb : Int) + 24 := by omega
    have HF1 := Lib.hid hf1
    have HF2 := Lib.hid hf2
    have HL1 := Lib.hid hl1
    have HL2 := Lib.hid hl2
    have HPA := Lib.hid hpa
    have HPB := Lib.hid hpb
    have HSA := Lib.hid hsa
    have HSB := Lib.hid hsb
    have HRA := Lib.hid era
    have HRB := Lib.hid erb
    have HI1 := Lib.hid i1
    have HI2 := Lib.hid i2
    clear hf1 hf2 hl1 hl2 hpa hpb hsa hsb era erb he1 he2 hza hzb hg hra hrb i1 i2
    have T1 := Lib.hid True.intro
    have T2 := Lib.hid True.intro
    have T3 := Lib.hid True.intro
    have T4 := Lib.hid True.intro
    go_enter Tryz.func13, Tryz.ntmps13
    go_wp2_with (first
      | (go_at_call 53; refine (alive13 _).mono ?_; rintro e w1 ⟨rfl, hp1⟩)
      | (go_at_call 26; clear T1; refine (HF1.out _).mono ?_; rintro e w2 ⟨rfl, rfl⟩)
      | (go_at_call 54; clear T2; refine (newOut key1 HL1.out _).mono ?_; rintro e w3 ⟨o1, rfl, ho3, hp3⟩)
      | (go_at_call 26; refine (HF2.out _).mono ?_; rintro e w4 ⟨rfl, rfl⟩)
      | (go_at_call 54; refine (newOut key2 HL2.out _).mono ?_; rintro e w5 ⟨o2, rfl, ho5, hp5⟩)
      | (go_at_call 55; clear T3; refine (sealOk (ho3.pu hp5) HL1.out a _ (by omega) HPA.out (by decide) (by decide)).mono ?_; rw [← HRA.out]; rintro e w6 ⟨rfl, ho6, hc6⟩
         have ho56 := ho5.cg hc6 (fun g hg hh => by rcases hh with h1 | h1; exact h1; have := ho3.dom g hg; omega))
      | (go_at_call 55; refine (sealOk ho56 HL2.out b _ (by omega) HPB.out (by decide) (by decide)).mono ?_; rw [← HRB.out]; rintro e w7 ⟨rfl, ho7, hc7⟩)
      | (go_at_call 57; clear T4; refine (HSA.out _).mono ?_; rintro e w8 ⟨rfl, hp8⟩)
      | (go_at_call 57; refine (HSB.out _).mono ?_; rintro e w9 ⟨rfl, hp9⟩; have i1 := HI1.out; have i2 := HI2.out))
    go_ret
    have hz : (((za : Int) + 24 == (zb : Int) + 24) == ((za : Int) == (zb : Int))) = true := by
      by_cases h : (za : Int) = zb
      · rw [h]; simp
      · have h2 : ¬ (za : Int) + 24 = zb + 24 := by omega
        rw [beq_false_of_ne h, beq_false_of_ne h2]; rfl
    have p5 := (hp1.trans hp3).trans hp5
    have p6 := Cg.since p5 hc6 (Gw.low (fun _ h => h.elim) hp1.size)
    have p7 := Cg.since p6 hc7 (Gw.low (fun _ h => h.elim) (hp1.trans hp3).size)
    exact ⟨ret_bool hz, (p7.trans hp8).trans hp9⟩
end Go.Proofs.YticdbilkhkfopaaGreat
