/- The walks of the laws of chapter 8. -/
import Derived.Test.YtdjbhbefghihcaaPad
import Derived.Deep.RegionWith
namespace Go.Proofs.Ytdjbhbefghihcaa
open Go.RowKit Go.Esc
theorem pad_abc : padL [97, 98, 99] = some ([0, 3, 97, 98, 99] ++ List.replicate 27 0) := by decide +kernel
theorem unpad_abc : unpadL ([0, 3, 97, 98, 99] ++ List.replicate 27 0) = some [97, 98, 99] := by decide +kernel

set_option maxHeartbeats 800000 in
set_option maxRecDepth 100000 in
theorem alive8 (w : World) : Calls Try.prog 36 #[] w fun e w' => e = .returned (.bool true) ∧ Pu w w' := by
  have hp := fun w => pad [97, 98, 99] w (by decide)
  rw [pad_abc] at hp
  have hu := fun w => unpad ([0, 3, 97, 98, 99] ++ List.replicate 27 0) w (by decide)
  rw [unpad_abc] at hu
  obtain ⟨q, hq⟩ : ∃ q : List UInt8, q = [0, 3, 97, 98, 99] ++ List.replicate 27 0 := ⟨_, rfl⟩
  have hl : q.length = 32 := by rw [hq]; rfl
  have ht : q.take 5 = [0, 3, 97, 98, 99] := by rw [hq]; rfl
  rw [← hq] at hp hu
  clear hq
  have HP := Lib.hid hp
  have HU := Lib.hid hu
  clear hp hu
  go_enter Try.func36, Try.ntmps36
  go_wp2_with (first | (go_at_call 37; refine (HP.out _).mono ?_; rintro e w1 ⟨rfl, hb1⟩) | (go_at_call 39; refine (HU.out _).mono ?_; rintro e w2 ⟨rfl, hb2⟩) | (go_at_call 75; refine (sizes _).mono ?_; rintro e w3 ⟨g, cap, rfl, hb3, -⟩))
  go_ret
  exact ⟨rfl, (hb1.trans hb2).trans hb3⟩

theorem padSize_cases (n : Int) (h : 0 ≤ n) : (padSize n = none ∧ 2047 ≤ n) ∨ (padSize n = some 32 ∧ n ≤ 30) ∨ (padSize n = some 128 ∧ 31 ≤ n ∧ n ≤ 126) ∨ (padSize n = some 512 ∧ 127 ≤ n ∧ n ≤ 510) ∨ (padSize n = some 2048 ∧ 511 ≤ n ∧ n ≤ 2046) := by
  rcases (by omega : n ≤ 30 ∨ (31 ≤ n ∧ n ≤ 126) ∨ (127 ≤ n ∧ n ≤ 510) ∨ (511 ≤ n ∧ n ≤ 2046) ∨ 2047 ≤ n) with k | k | k | k | k
  · exact .inr (.inl ⟨padSize_32 h k, k⟩)
  · exact .inr (.inr (.inl ⟨padSize_128 k.1 k.2, k⟩))
  · exact .inr (.inr (.inr (.inl ⟨padSize_512 k.1 k.2, k⟩)))
  · exact .inr (.inr (.inr (.inr ⟨padSize_2048 k.1 k.2, k⟩)))
  · exact .inl ⟨padSize_none (.inr k), k⟩

set_option maxHeartbeats 4000000 in
set_option maxRecDepth 100000 in
theorem padSizes_walk (a : Int) (_ : (Lit.int .i64 a).wf = true) (b : Int) (_ : (Lit.int .i64 b).wf = true) (w : World) :
    Calls Try.prog 4 #[.int .i64 a, .int .i64 b] w fun e w' => e = .returned (.bool true) ∧ Pu w w' := by
  by_cases hg : a < 0 ∨ b < a ∨ 3000 < b
  · rcases (by omega : a < 0 ∨ (0 ≤ a ∧ b < a) ∨ (0 ≤ a ∧ a ≤ b ∧ 3000 < b)) with h1 | ⟨h1, h2⟩ | ⟨h1, h2, h3⟩
    all_goals
      clear hg
      go_enter Try.func4, Try.ntmps4
      go_wp2_with (go_at_call 36; refine (alive8 _).mono ?_; rintro e w1 ⟨rfl, hb1⟩)
      go_ret
      exact ⟨rfl, hb1⟩
  · obtain ⟨h1, h2, h3⟩ : 0 ≤ a ∧ a ≤ b ∧ b ≤ 3000 := by omega
    have hza := size a
    have hzb := size b
    rcases padSize_cases a h1 with ⟨ea, ra⟩ | ⟨ea, ra⟩ | ⟨ea, ra, ra'⟩ | ⟨ea, ra, ra'⟩ | ⟨ea, ra, ra'⟩ <;> rcases padSize_cases b (by omega) with ⟨eb, rb⟩ | ⟨eb, rb⟩ | ⟨eb, rb, rb'⟩ | ⟨eb, rb, rb'⟩ | ⟨eb, rb, rb'⟩ <;> first | (exfalso; omega) | skip
    all_goals
      rw [ea] at hza
      rw [eb] at hzb
      have HA := Lib.hid hza
      have HB := Lib.hid hzb
      clear hza hzb ea eb hg
      go_enter Try.func4, Try.ntmps4
      go_wp2_with (first | (go_at_call 36; refine (alive8 _).mono ?_; rintro e w1 ⟨rfl, hb1⟩) | (go_at_call_of 38 (a); refine (HA.out _).mono ?_; rintro e w2 ⟨rfl, hb2⟩) | (go_at_call_of 38 (b); refine (HB.out _).mono ?_; rintro e w3 ⟨rfl, hb3⟩))
      go_ret
      refine ⟨?_, (hb1.trans hb2).trans hb3⟩
      first | rfl | exact ret_bool (by simp <;> omega)

set_option maxHeartbeats 800000 in
set_option maxRecDepth 100000 in
theorem padOnly_walk (s : ByteArray) (_ : s.size ≤ maxLen) (w : World) :
    Calls Try.prog 5 #[.string s] w fun e w' => e = .returned (.bool true) ∧ Pu w w' := by
  obtain ⟨b, rfl⟩ : ∃ b, s = bs b := ⟨_, bs_eta s⟩
  by_cases hg : 2100 < b.length
  · have hg' : (2100 : Int) < b.length := by omega
    go_enter Try.func5, Try.ntmps5
    go_wp2_with (go_at_call 36; refine (alive8 _).mono ?_; rintro e w1 ⟨rfl, hb1⟩)
    go_ret
    exact ⟨rfl, hb1⟩
  · have hg' : (b.length : Int) ≤ 2100 := by omega
    have hu := fun w => unpad b w (by omega)
    cases hub : unpadL b with
    | none =>
      rw [hub] at hu
      have HU := Lib.hid hu
      clear hu hub hg
      go_enter Try.func5, Try.ntmps5
      go_wp2_with (first | (go_at_call 36; refine (alive8 _).mono ?_; rintro e w1 ⟨rfl, hb1⟩) | (go_at_call 39; refine (HU.out _).mono ?_; rintro e w2 ⟨rfl, hb2⟩))
      go_ret
      exact ⟨rfl, hb1.trans hb2⟩
    | some o =>
      have hpo : padL o = some b ∧ o.length ≤ 2100 := by
        unfold unpadL at hub
        split at hub
        · simp at hub
        · simp only at hub
          split at hub
          · simp at hub
          · split at hub
            · rename_i h
              simp at hub
              rw [hub] at h
              refine ⟨h, ?_⟩
              rw [← hub]; simp; omega
            · simp at hub
      rw [hub] at hu
      have hp := fun w => pad o w (by omega)
      rw [hpo.1] at hp
      have HU := Lib.hid hu
      have HP := Lib.hid hp
      have hq : (b == b) = true := by simp
      clear hu hub hg hp hpo
      go_enter Try.func5, Try.ntmps5
      go_wp2_with (first | (go_at_call 36; refine (alive8 _).mono ?_; rintro e w1 ⟨rfl, hb1⟩) | (go_at_call 39; refine (HU.out _).mono ?_; rintro e w2 ⟨rfl, hb2⟩) | (go_at_call 37; refine (HP.out _).mono ?_; rintro e w3 ⟨rfl, hb3⟩))
      go_ret
      refine ⟨?_, (hb1.trans hb2).trans hb3⟩
      first | rfl | exact ret_bool (by simp)
end Go.Proofs.Ytdjbhbefghihcaa
