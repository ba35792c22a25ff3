/- Chapter 16: ShakeStranger. -/
import Derived.Test.YtlbdbmnkjljohaaGreatT17
import Derived.Test.YtlbdbmnkjljohaaGreatFill
set_option linter.unusedSimpArgs false
set_option linter.unusedVariables false
namespace Go.Proofs.YtlbdbmnkjljohaaGreat
open Go.RowKit Go.Esc
theorem got_none (nh : Bs) (l : List UserS) (name papers x : Bs) (now : Int) (hx : x.length = 32) (h1 : secV l name = none) : gotR nh l (hst1 name papers) (3 :: x) now = ⟨[], 6, ⟨2, true, name, papers, false, [], []⟩, l⟩ := by
  have hp : provR l { hst1 name papers with got := (hst1 name papers).got + 1 } (3 :: x) now = ⟨[], 6, ⟨2, false, name, papers, false, [], []⟩, l⟩ := by
    unfold provR
    rw [fix3 _ hx]
    simp only [hst1]
    rw [h1]
  unfold gotR
  rw [if_neg (by simp [hst1]), if_neg (by simp [hst1]), hp]
  rfl
theorem got_over (nh : Bs) (l : List UserS) (s : HSt) (b : Bs) (now : Int) (h : s.bad = true ∨ s.done = true) : gotR nh l s b now = ⟨[], 7, s, l⟩ := by
  unfold gotR; rw [if_pos h]
theorem one_other {name name' sec : Bs} (h : name' ≠ name) : secV (mkU [(name, sec)]) name' = none := by
  unfold secV posN mkU
  simp [Ne.symm h]
set_option maxRecDepth 100000 in
set_option maxHeartbeats 3200000 in
theorem shakeStranger_walk (s1 : ByteArray) (z1 : s1.size ≤ maxLen) (s2 : ByteArray) (z2 : s2.size ≤ maxLen) (s3 : ByteArray) (z3 : s3.size ≤ maxLen) (s4 : ByteArray) (z4 : s4.size ≤ maxLen) (w : World) :
    Calls Tryz.prog 6 #[.string s1, .string s2, .string s3, .string s4] w fun e w' => e = .returned (.bool true) ∧ Pu w w' := by
  obtain ⟨name, rfl⟩ : ∃ a, s1 = bs a := ⟨_, bs_eta s1⟩
  obtain ⟨secret, rfl⟩ : ∃ a, s2 = bs a := ⟨_, bs_eta s2⟩
  obtain ⟨a, rfl⟩ : ∃ a, s3 = bs a := ⟨_, bs_eta s3⟩
  obtain ⟨b, rfl⟩ : ∃ a, s4 = bs a := ⟨_, bs_eta s4⟩
  rw [bs_size] at z1 z2 z3 z4
  unfold maxLen at z1 z2 z3 z4
  have kann : (ByteArray.mk #[97, 110, 110]) = bs annW := rfl
  have hN := fun w => refName name (by omega) w
  cases hnm : nameB name with
  | false =>
    rw [hnm] at hN
    have HNM := Lib.hid hN
    clear hN hnm z1 z2 z3 z4
    go_enter Tryz.func6, Tryz.ntmps6
    go_wp2_with (first
      | (go_at_call 35; refine (HNM.out _).mono ?_; rintro e w0 ⟨rfl, rfl⟩)
      | (go_at_call 12; refine (alive16 _).mono ?_; rintro e w1 ⟨rfl, hp1⟩))
    go_ret
    exact ⟨rfl, hp1⟩
  | true =>
  rw [hnm] at hN
  have HNM := Lib.hid hN
  clear hN
  by_cases hna : name = annW
  · subst hna
    clear hnm z1 z2 z3 z4
    go_enter Tryz.func6, Tryz.ntmps6
    go_wp2_with (first
      | (go_at_call 35; refine (HNM.out _).mono ?_; rintro e w0 ⟨rfl, rfl⟩)
      | (go_at_call 12; refine (alive16 _).mono ?_; rintro e w1 ⟨rfl, hp1⟩))
    go_ret
    exact ⟨rfl, hp1⟩
  have q2 : ¬ bs name = bs annW := fun h => hna (bs_inj h)
  have q3 : (name == annW) = false := by simp [hna]
  by_cases ha : 60 < a.length
  · have q4 : (60 : Int) < a.length := by omega
    clear hna hnm z1 z2 z3 z4 ha
    go_enter Tryz.func6, Tryz.ntmps6
    go_wp2_with (first
      | (go_at_call 35; refine (HNM.out _).mono ?_; rintro e w0 ⟨rfl, rfl⟩)
      | (go_at_call 12; refine (alive16 _).mono ?_; rintro e w1 ⟨rfl, hp1⟩))
    go_ret
    exact ⟨rfl, hp1⟩
  have q4 : ¬ (60 : Int) < a.length := by omega
  by_cases hb : 60 < b.length
  · have q5 : (60 : Int) < b.length := by omega
    clear hna hnm z1 z2 z3 z4 ha hb
    go_enter Tryz.func6, Tryz.ntmps6
    go_wp2_with (first
      | (go_at_call 35; refine (HNM.out _).mono ?_; rintro e w0 ⟨rfl, rfl⟩)
      | (go_at_call 12; refine (alive16 _).mono ?_; rintro e w1 ⟨rfl, hp1⟩))
    go_ret
    exact ⟨rfl, hp1⟩
  have q5 : ¬ (60 : Int) < b.length := by omega
  have hi2 : (Tryz.prog.info? 44).map (·.size) = some 2 := by kernel_rfl
  have hnl := nameB_len hnm
  have hF1 := fun w => fillW [115] 32 (by decide) (by decide) w
  have hF2 := fun w => fillW a 16 (by omega) (by decide) w
  have hF3 := fun w => fillW b 16 (by omega) (by decide) w
  have hF4 := fun w => fillW secret 32 (by omega) (by decide) w
  have hsl := fillL_len secret 32
  have hal := fillL_len a 16
  have hbl := fillL_len b 16
  obtain ⟨sc, hsc⟩ : ∃ x, x = fillL secret 32 := ⟨_, rfl⟩
  obtain ⟨na, hnae⟩ : ∃ x, x = fillL a 16 := ⟨_, rfl⟩
  obtain ⟨nb, hnbe⟩ : ∃ x, x = fillL b 16 := ⟨_, rfl⟩
  rw [← hsc] at hF4 hsl
  rw [← hnae] at hF2 hal
  rw [← hnbe] at hF3 hbl
  change ∀ w, Calls Tryz.prog 16 #[S [115], .int .i64 32] w fun e w' => e = .returned (S secS) ∧ w' = w at hF1
  have hgo : guestOk name sc na := ⟨by unfold userB; rw [hnm]; simp [hsl], hal⟩
  have hUs := fun w => newOne annW secS ann_user w
  have hNg := fun w => newGuest name sc na hgo w
  have hNh := fun ub w => newHost ub nb hbl w
  have hu := mkU_len (one_ok ann_user)
  have e1 := fun now => got_hello nb (mkU [(annW, secS)]) name na now hgo.hello
  have e2 := chal_ok sc (helloL name na) nb hbl
  have hhl := helloL_length name na
  have hcl : (chalL nb).length = 17 := by simp [chalL, hbl]
  obtain ⟨pap, hpap⟩ : ∃ x, x = helloL name na ++ chalL nb := ⟨_, rfl⟩
  have hpl : pap.length = 2 + name.length + na.length + 17 := by rw [hpap, List.length_append, hhl, hcl]
  rw [← hpap] at e1 e2
  have e3 := fun now => got_none nb (mkU [(annW, secS)]) name pap (proofL sc pap) now (proofL_length _ _) (one_other hna)
  have hprl : (3 :: proofL sc pap).length = 33 := by simp [proofL_length]
  obtain ⟨pr, hpr⟩ : ∃ x, x = 3 :: proofL sc pap := ⟨_, rfl⟩
  obtain ⟨hel, hhel⟩ : ∃ x, x = helloL name na := ⟨_, rfl⟩
  have e1' : ∀ now, gotR nb (mkU [(annW, secS)]) hst0 hel now = ⟨2 :: nb, 0, hst1 name pap, mkU [(annW, secS)]⟩ := by rw [hhel]; exact e1
  have e2' : chalS sc hel [] 0 (2 :: nb) = (pr, 0, pap, 1) := by rw [hhel, hpr]; exact e2
  rw [← hpr] at hprl e3
  rw [← hhel] at hhl
  have e4 : ∀ now, gotR nb (mkU [(annW, secS)]) ⟨2, true, name, pap, false, [], []⟩ pr now = ⟨[], 7, ⟨2, true, name, pap, false, [], []⟩, mkU [(annW, secS)]⟩ := fun now => got_over _ _ _ _ _ (.inl rfl)
  have E1 := Lib.hid e1'
  have E2 := Lib.hid e2'
  have E3 := Lib.hid e3
  have E4 := Lib.hid e4
  have HF1 := Lib.hid hF1
  have HF2 := Lib.hid hF2
  have HF3 := Lib.hid hF3
  have HF4 := Lib.hid hF4
  have HUS := Lib.hid hUs
  have HNG := Lib.hid hNg
  have HNH := Lib.hid hNh
  have HHEL := Lib.hid hhel
  have HU := Lib.hid hu
  have HGO := Lib.hid hgo
  have T1 := Lib.hid True.intro
  have T2 := Lib.hid True.intro
  have T3 := Lib.hid True.intro
  have T4 := Lib.hid True.intro
  have T5 := Lib.hid True.intro
  have HPL := Lib.hid hpl
  have HHL := Lib.hid hhl
  have k115 : (ByteArray.mk #[115]) = bs [115] := rfl
  have k2 : (ByteArray.mk #[2]) = bs [2] := rfl
  have zz : ¬ (9223372036854775807 < nb.length + 1) := by omega
  have zz2 : ¬ (9223372036854775807 < 1 + nb.length) := by omega
  clear e1 e2 e1' e2' e3 e4 hF1 hF2 hF3 hF4 hUs hNg hNh hhel hpr hu hgo hsc hnae hnbe hpap hpl hhl hcl z1 z2 z3 z4 ha hb hna hnm
  go_enter Tryz.func6, Tryz.ntmps6
  go_wp2_with (first
    | (go_at_call 35; refine (HNM.out _).mono ?_; rintro e w0 ⟨rfl, rfl⟩)
    | (go_at_call 12; refine (alive16 _).mono ?_; rintro e w1 ⟨rfl, hp1⟩)
    | (go_at_call 16; clear T1; refine (HF1.out _).mono ?_; rintro e w1 ⟨rfl, rfl⟩)
    | (go_at_call 16; clear T2; refine (HF2.out _).mono ?_; rintro e w1 ⟨rfl, rfl⟩)
    | (go_at_call 16; clear T3; refine (HF3.out _).mono ?_; rintro e w1 ⟨rfl, rfl⟩)
    | (go_at_call 16; refine (HF4.out _).mono ?_; rintro e w1 ⟨rfl, rfl⟩)
    | (go_at_call 28; refine (HUS.out _).mono ?_; rintro e w2 ⟨ub, G, rfl, hu2, hlo, hp2⟩)
    | (go_at_call 13; refine (HNG.out _).mono ?_; rintro e w3 ⟨gb, rfl, hg3, hgl, hp3⟩)
    | (go_at_call 29; refine (HNH.out ub _).mono ?_; rintro e w4 ⟨hb, rfl, hh4, hhl, hp4⟩
       have t4 := Trio.start hu2 hp2 hlo hg3 hgl hp3 hh4 hhl hp4
       clear hu2 hg3 hh4 hp2 hp3 hp4)
    | (go_at_call 24; refine (helloG t4.g).mono ?_; rw [← HHEL.out]; rintro e w5 ⟨rfl, rfl⟩)
    | (go_at_call 30; clear T4; refine (trioGot t4 hbl HU.out (by decide) (by decide) (by decide) hel (by rw [HHL.out]; omega) 1 (by decide) (by decide)).mono ?_; rw [E1.out]; rintro e w6 ⟨rfl, t6⟩)
    | (go_at_call 18; refine (trioChal t6 (by decide) HGO.out (2 :: nb) (by simp; omega)).mono ?_; rw [← HHEL.out, E2.out]; rintro e w7 ⟨rfl, t7⟩)
    | (go_at_call 30; clear T5; refine (trioGot t7 hbl HU.out (by show List.length name ≤ 1000000; omega) (by show List.length pap ≤ 10000; rw [HPL.out]; omega) (by show (1 : Nat) ≤ 1000; omega) pr (by omega) 1 (by decide) (by decide)).mono ?_; rw [E3.out]; rintro e w8 ⟨rfl, t8⟩)
    | (go_at_call 30; refine (trioGot t8 hbl HU.out (by show List.length name ≤ 1000000; omega) (by show List.length pap ≤ 10000; rw [HPL.out]; omega) (by show (2 : Nat) ≤ 1000; omega) pr (by omega) 1 (by decide) (by decide)).mono ?_; rw [E4.out]; rintro e w9 ⟨rfl, t9⟩)
    | (go_at_call 31; refine (doneW t9.h).mono ?_; rintro e w10 ⟨rfl, rfl⟩)
    | (go_at_call 33; refine (hostKeys t9.h).mono ?_; rintro e w11 ⟨rfl, hp11⟩))
  go_ret
  exact ⟨rfl, Pu.trans hp1 (Pu.trans t9.since hp11)⟩
end Go.Proofs.YtlbdbmnkjljohaaGreat
