/- Chapter 16: ShakeKeys. -/
import Derived.Test.YtlbdbmnkjljohaaGreatT17
import Derived.Test.YtlbdbmnkjljohaaGreatFill
set_option linter.unusedSimpArgs false
set_option linter.unusedVariables false
namespace Go.Proofs.YtlbdbmnkjljohaaGreat
open Go.RowKit Go.Esc
theorem ann_any (n : Bs) (h : n.length = 16) : guestOk annW secS n := ⟨ann_user, h⟩
set_option maxRecDepth 100000 in
set_option maxHeartbeats 3200000 in
theorem shakeKeys_walk (s1 : ByteArray) (z1 : s1.size ≤ maxLen) (s2 : ByteArray) (z2 : s2.size ≤ maxLen) (s3 : ByteArray) (z3 : s3.size ≤ maxLen) (w : World) :
    Calls Tryz.prog 8 #[.string s1, .string s2, .string s3] w fun e w' => e = .returned (.bool true) ∧ Pu w w' := by
  obtain ⟨a, rfl⟩ : ∃ a, s1 = bs a := ⟨_, bs_eta s1⟩
  obtain ⟨b, rfl⟩ : ∃ a, s2 = bs a := ⟨_, bs_eta s2⟩
  obtain ⟨c, rfl⟩ : ∃ a, s3 = bs a := ⟨_, bs_eta s3⟩
  clear z1 z2 z3
  by_cases ha : 60 < a.length
  · have q4 : (60 : Int) < a.length := by omega
    go_enter Tryz.func8, Tryz.ntmps8
    go_wp2_with (go_at_call 12; refine (alive16 _).mono ?_; rintro e w1 ⟨rfl, hp1⟩)
    go_ret
    exact ⟨rfl, hp1⟩
  have q4 : ¬ (60 : Int) < a.length := by omega
  by_cases hb : 60 < b.length
  · have q5 : (60 : Int) < b.length := by omega
    go_enter Tryz.func8, Tryz.ntmps8
    go_wp2_with (go_at_call 12; refine (alive16 _).mono ?_; rintro e w1 ⟨rfl, hp1⟩)
    go_ret
    exact ⟨rfl, hp1⟩
  have q5 : ¬ (60 : Int) < b.length := by omega
  by_cases hc : 60 < c.length
  · have q6 : (60 : Int) < c.length := by omega
    go_enter Tryz.func8, Tryz.ntmps8
    go_wp2_with (go_at_call 12; refine (alive16 _).mono ?_; rintro e w1 ⟨rfl, hp1⟩)
    go_ret
    exact ⟨rfl, hp1⟩
  have q6 : ¬ (60 : Int) < c.length := by omega
  have hi2 : (Tryz.prog.info? 23).map (·.size) = some 2 := by kernel_rfl
  have hi4 : (Tryz.prog.info? 68).map (·.size) = some 2 := by kernel_rfl
  have hF1 := fun w => fillW [115] 32 (by decide) (by decide) w
  change ∀ w, Calls Tryz.prog 16 #[S [115], .int .i64 32] w fun e w' => e = .returned (S secS) ∧ w' = w at hF1
  have hsl : secS.length = 32 := by decide +kernel
  have HF1 := Lib.hid hF1
  have k115 : (ByteArray.mk #[115]) = bs [115] := rfl
  have kann : (ByteArray.mk #[97, 110, 110]) = bs annW := rfl
  obtain ⟨fl, hfl⟩ : ∃ x, x = [S a, S b, S a, S c, S c, S b] := ⟨_, rfl⟩
  have hfp : ∀ k, k < 3 → ∃ p q : Bs, (fl.drop (k * 2)).take 2 = [S p, S q] ∧ p.length ≤ 60 ∧ q.length ≤ 60 := by
    intro k hk
    rw [hfl]
    match k, hk with
    | 0, _ => exact ⟨a, b, rfl, by omega, by omega⟩
    | 1, _ => exact ⟨a, c, rfl, by omega, by omega⟩
    | 2, _ => exact ⟨c, b, rfl, by omega, by omega⟩
  have hfll : fl.length = 6 := by rw [hfl]; rfl
  have HFL := Lib.hid hfl
  have HFP := Lib.hid hfp
  have HFLL := Lib.hid hfll
  clear hF1 hfl hfp hfll ha hb hc
  go_enter Tryz.func8, Tryz.ntmps8
  go_wp2_with (first
    | (go_at_call 12; refine (alive16 _).mono ?_; rintro e w1 ⟨rfl, hp1⟩)
    | (go_at_call 16; refine (HF1.out _).mono ?_; rintro e w1 ⟨rfl, rfl⟩)
    | (refine wpList_store_part rfl 23 (.tmp 7) (.tmp 39) rfl w1.heap.size 0 [S annW, S secS] (by rfl) (by rfl) (Row.newAt w1 w1.heap.size _ _ rfl rfl) hi2 (by simp) (by simp [Value.oneCell']) ?_; intro wM hrM hchM
       have hpM : Pu w1 wM := hchM.below ((Pu.refl w1).alloc _) (Nat.le_refl _)
       rw [splice_all (by rfl)] at hrM
       clear hchM))
  have hpL := (Pu.refl wM).alloc (.cells #[S a, S b, S a, S c, S c, S b] 68)
  have hrL : Row (wM.alloc (.cells #[S a, S b, S a, S c, S c, S b] 68)) wM.heap.size 68 fl := Row.newAt _ _ _ _ rfl HFL.out.symm
  have hrM2 := hrM.pu hpL
  obtain ⟨wL, hwL⟩ : ∃ x, x = wM.alloc (.cells #[S a, S b, S a, S c, S c, S b] 68) := ⟨_, rfl⟩
  go_loopw [51, 9, 10, 11, 12, 13, 14, 15, 16, 17, 18, 19] (fun x _ _ _ _ _ _ _ _ _ _ _ wr => ∃ k : Nat, k ≤ 3 ∧ x = .int .i64 (k : Int) ∧ Pu (wM.alloc (.cells #[S a, S b, S a, S c, S c, S b] 68)) wr) (fun x _ _ _ _ _ _ _ _ _ _ _ _ => 3 - (intOf x).toNat)
  case atStart => exact ⟨0, by omega, rfl, Pu.refl _⟩
  case round =>
    obtain ⟨k, hk, rfl, hpr⟩ := hrel
    rw [← hwL] at hpL hrL hrM2 hpr
    by_cases hlt : k < 3
    · have hk1 : (k : Int) < 3 := by omega
      have hk0 : (0 : Int) ≤ k := by omega
      obtain ⟨p, q, hpq, hpl, hql⟩ := HFP.out k hlt
      have hrL2 := hrL.pu hpr
      have hrM3 := hrM2.pu hpr
      have hF2 := fun w => fillW p 16 (by omega) (by decide) w
      have hF3 := fun w => fillW q 16 (by omega) (by decide) w
      have hal := fillL_len p 16
      have hbl := fillL_len q 16
      obtain ⟨na, hnae⟩ : ∃ x, x = fillL p 16 := ⟨_, rfl⟩
      obtain ⟨nb, hnbe⟩ : ∃ x, x = fillL q 16 := ⟨_, rfl⟩
      rw [← hnae] at hF2 hal
      rw [← hnbe] at hF3 hbl
      have hUs := fun w => newOne annW secS ann_user w
      have hNg := fun w => newGuest annW secS na (ann_any na hal) w
      have hNh := fun ub w => newHost ub nb hbl w
      have hu := mkU_len (one_ok ann_user)
      have e1 := fun now => got_hello nb (mkU [(annW, secS)]) annW na now (ann_any na hal).hello
      have e2 := chal_ok secS (helloL annW na) nb hbl
      have hpap : helloL annW na ++ chalL nb = 1 :: 3 :: 97 :: 110 :: 110 :: (na ++ 2 :: nb) := rfl
      rw [hpap] at e1 e2
      obtain ⟨pap, hpp⟩ : ∃ x : Bs, x = 1 :: 3 :: 97 :: 110 :: 110 :: (na ++ 2 :: nb) := ⟨_, rfl⟩
      have hpl2 : pap.length = 38 := by rw [hpp]; simp; omega
      rw [← hpp] at e1 e2
      have e3 := fun now => got_proof nb (mkU [(annW, secS)]) annW pap secS now (one_sec _ _) (one_lock _ _ _)
      rw [one_good] at e3
      have hKe := fun w => refKeys secS pap (by omega) (by omega) w
      rw [sesV_eq] at hKe
      have hst : hst2 annW pap secS = ⟨2, false, annW, pap, true, upL secS pap, downL secS pap⟩ := rfl
      obtain ⟨up, hup⟩ : ∃ x, x = upL secS pap := ⟨_, rfl⟩
      obtain ⟨dn, hdn⟩ : ∃ x, x = downL secS pap := ⟨_, rfl⟩
      rw [← hup, ← hdn] at hKe hst
      have hhl : (helloL annW na).length = 21 := by rw [helloL_length, hal]; rfl
      have hcl : (chalL nb).length = 17 := by simp [chalL, hbl]
      have hprl : (3 :: proofL secS pap).length = 33 := by simp [proofL_length]
      obtain ⟨pr, hpr9⟩ : ∃ x, x = 3 :: proofL secS pap := ⟨_, rfl⟩
      obtain ⟨hel, hhel⟩ : ∃ x, x = helloL annW na := ⟨_, rfl⟩
      obtain ⟨ch, hch⟩ : ∃ x, x = chalL nb := ⟨_, rfl⟩
      rw [← hch] at e1 e2 hcl
      rw [← hpr9] at e2 e3 hprl
      rw [← hhel] at e1 e2 hhl
      have E1 := Lib.hid e1
      have E2 := Lib.hid e2
      have E3 := Lib.hid e3
      have HF2 := Lib.hid hF2
      have HF3 := Lib.hid hF3
      have HUS := Lib.hid hUs
      have HNG := Lib.hid hNg
      have HNH := Lib.hid hNh
      have HHEL := Lib.hid hhel
      have HU := Lib.hid hu
      have HKE := Lib.hid hKe
      have HST := Lib.hid hst
      have HPP := Lib.hid hpp
      have HGO := Lib.hid (ann_any na hal)
      have HPQ := Lib.hid hpq
      have T1 := Lib.hid True.intro
      have HWL := Lib.hid hwL
      have HPL2 := Lib.hid hpl2
      clear e1 e2 e3 hF2 hF3 hUs hNg hNh hhel hu hKe hst hpp hpq hup hdn hpap hnae hnbe hpr9 hch hrL hrM hrM2 hwL hpl2
      go_wp2_with (first
        | (refine wpList_load_part rfl 68 (.tmp 53) rfl wM.heap.size (k*2) 2 (by rfl) hrL2 Tryz.underlying68 rfl hi4 (by rw [HFLL.out]; omega) ?_; rw [HPQ.out])
        | (refine wpList_store_part rfl 68 (.tmp 9) (.tmp 54) rfl wr.heap.size 0 [S p, S q] (by rfl) (by rfl) (Row.newAt wr wr.heap.size _ _ rfl rfl) hi4 (by simp) (by simp [Value.oneCell']) ?_; intro w2 hr2 hch2))
      rw [splice_all (by rfl)] at hr2
      have hp2 : Pu wr w2 := hch2.below ((Pu.refl wr).alloc _) (Nat.le_refl _)
      have hrM4 := hrM3.pu hp2
      have hc0 := fun w' (hp : Pu w2 w') => (hr2.pu hp).cell 0 (by simp)
      have hc1 := fun w' (hp : Pu w2 w') => (hr2.pu hp).cell 1 (by simp)
      simp at hc0 hc1
      have HC0 := Lib.hid hc0
      have HC1 := Lib.hid hc1
      clear hc0 hc1 hr2 hch2 hrL2 hrM3
      apply region_pu (Φs := (Is _ :: Is _ :: Is _ :: Is _ :: Is _ :: Is _ :: Is _ :: Is _ :: [])) (hm := by kernel_rfl) (hE := by kernel_rfl) (hD := by kernel_rfl) (hsize := by kernel_rfl)
      case hop =>
        refine ⟨?_, ?_, ?_, ?_, ?_, ?_, ?_, ?_, trivial⟩
        · intro a' w' hs hp he
          have e9 := hs 9 (by kernel_rfl)
          try simp [Is, Region.binds] at he
          exact op_val rfl (wanted_none rfl) (by first | (go_simp; done) | (go_simp; rfl) | (simp [execOp, Act.eval, go_sem, *]; done) | (simp [execOp, Act.eval, go_sem, *]; rfl)) rfl (Pu.refl _)
        · intro a' w' hs hp he
          try simp [Is, Region.binds] at he
          have hc := HC0.out _ hp; exact op_val rfl (wanted_none rfl) (by first | (go_simp; done) | (go_simp; rfl)) rfl (Pu.refl _)
        · intro a' w' hs hp he
          try simp [Is, Region.binds] at he
          exact op_callP ((HF2.out _).mono (by rintro e w' ⟨rfl, rfl⟩; exact ⟨rfl, Pu.refl _⟩)) rfl (wanted_none rfl) (by first | (go_simp; done) | (go_simp; rfl)) (fun _ => rfl)
        · intro a' w' hs hp he
          have e9 := hs 9 (by kernel_rfl)
          try simp [Is, Region.binds] at he
          exact op_val rfl (wanted_none rfl) (by first | (go_simp; done) | (go_simp; rfl) | (simp [execOp, Act.eval, go_sem, *]; done) | (simp [execOp, Act.eval, go_sem, *]; rfl)) rfl (Pu.refl _)
        · intro a' w' hs hp he
          try simp [Is, Region.binds] at he
          have hc := HC1.out _ hp; exact op_val rfl (wanted_none rfl) (by first | (go_simp; done) | (go_simp; rfl)) rfl (Pu.refl _)
        · intro a' w' hs hp he
          try simp [Is, Region.binds] at he
          exact op_callP ((HF3.out _).mono (by rintro e w' ⟨rfl, rfl⟩; exact ⟨rfl, Pu.refl _⟩)) rfl (wanted_none rfl) (by first | (go_simp; done) | (go_simp; rfl)) (fun _ => rfl)
        · intro a' w' hs hp he
          try simp [Is, Region.binds] at he
          exact op_val rfl (wanted_none rfl) (by first | (go_simp; done) | (go_simp; rfl) | (simp [execOp, Act.eval, go_sem, *]; done) | (simp [execOp, Act.eval, go_sem, *]; rfl)) rfl (Pu.refl _)
        · intro a' w' hs hp he
          try simp [Is, Region.binds] at he
          exact op_val rfl (wanted_none rfl) (by first | (go_simp; done) | (go_simp; rfl) | (simp [execOp, Act.eval, go_sem, *]; done) | (simp [execOp, Act.eval, go_sem, *]; rfl)) rfl (Pu.refl _)
      case hend =>
        intro a' w' hdef hsz hs hp hall
        obtain ⟨r0, r1, r2, r3, r4, r5, r6, r7, -⟩ := hall
        have hA := agree_done (agree_step (agree_step (agree_step (agree_step (agree_step (agree_step (agree_step (agree_step (agree_init [55, 56, 57, 58, 59, 60, 10, 11] hsz hs (by kernel_rfl)) r0) r1) r2) r3) r4) r5) r6) r7)
        have ha := act_of hA hdef
        rw [ha]
        clear ha hA hs hsz hdef r0 r1 r2 r3 r4 r5 r6 r7 
        (try simp only [List.setIfInBounds_toArray])
        (try dsimp only [List.set_cons_zero, List.set_cons_succ])
        (try simp only [Exit.then])
        rename World => w3
        have hrM5 := hrM4.pu hp
        have hp3 := hpr.trans (hp2.trans hp)
        clear hp HC0 HC1 hrM4
        simp only [Option.isSome_some, if_true]
        go_wp2_with (first
          | (refine wpList_load_row rfl 23 (.tmp 7) rfl w1.heap.size [S annW, S secS] (by rfl) hrM5 Tryz.underlying23 rfl hi2 ?_)
          | (go_at_call 28; refine (HUS.out _).mono ?_; rintro e w4 ⟨ub, G, rfl, hu4, hlo, hp4⟩; have hrM6 := hrM5.pu hp4)
          | (refine wpList_load_row rfl 23 (.tmp 7) rfl w1.heap.size [S annW, S secS] (by rfl) hrM6 Tryz.underlying23 rfl hi2 ?_)
          | (go_at_call 13; refine (HNG.out _).mono ?_; rintro e w5 ⟨gb, rfl, hg5, hgl, hp5⟩)
          | (go_at_call 29; refine (HNH.out ub _).mono ?_; rintro e w6 ⟨hb, rfl, hh6, hhl6, hp6⟩
             have t6 := Trio.start hu4 hp4 hlo hg5 hgl hp5 hh6 hhl6 hp6
             clear hu4 hg5 hh6 hp5 hp6)
          | (go_at_call 24; refine (helloG t6.g).mono ?_; rw [← HHEL.out]; rintro e w7 ⟨rfl, rfl⟩)
          | (go_at_call 30; clear T1; refine (trioGot t6 hbl HU.out (by decide) (by decide) (by decide) hel (by omega) 1 (by decide) (by decide)).mono ?_; rw [E1.out]; rintro e w8 ⟨rfl, t8⟩)
          | (go_at_call 18; refine (trioChal t8 (by decide) HGO.out ch (by omega)).mono ?_; rw [← HHEL.out, E2.out]; rintro e w9 ⟨rfl, t9⟩)
          | (go_at_call 30; refine (trioGot t9 hbl HU.out (by show (3 : Nat) ≤ 1000000; omega) (by show List.length pap ≤ 10000; rw [HPL2.out]; omega) (by show (1 : Nat) ≤ 1000; omega) pr (by omega) 1 (by decide) (by decide)).mono ?_; rw [E3.out]; rintro e w10 ⟨rfl, t10⟩))
        have hrM7 := hrM5.pu t10.since
        rw [HST.out] at t10
        have hcs := fun w' (hp : Pu w10 w') => (hrM7.pu hp).cell 1 (by simp)
        simp at hcs
        have HCS := Lib.hid hcs
        have k5 : (ByteArray.mk #[1, 3, 97, 110, 110]) = bs [1, 3, 97, 110, 110] := rfl
        have k2 : (ByteArray.mk #[2]) = bs [2] := rfl
        clear hcs hrM7 hrM5 hrM6 t6 t8 t9
        apply region_pu (Φs := (Is _ :: Is _ :: Is _ :: Is _ :: Is _ :: Is _ :: Is _ :: Is _ :: Is _ :: Is _ :: Is _ :: [])) (hm := by kernel_rfl) (hE := by kernel_rfl) (hD := by kernel_rfl) (hsize := by kernel_rfl)
        case hop =>
          refine ⟨?_, ?_, ?_, ?_, ?_, ?_, ?_, ?_, ?_, ?_, ?_, trivial⟩
          · intro a' w' hs hp he
            have e15 := hs 15 (by kernel_rfl)
            try simp [Is, Region.binds] at he
            exact op_val rfl (wanted_none rfl) (by first | (go_simp; done) | (go_simp; rfl) | (simp [execOp, Act.eval, go_sem, *]; done) | (simp [execOp, Act.eval, go_sem, *]; rfl)) rfl (Pu.refl _)
          · intro a' w' hs hp he
            try simp [Is, Region.binds] at he
            exact op_callP (hostKeys (t10.pu hp).h) rfl (wanted_none rfl) (by first | (go_simp; done) | (go_simp; rfl)) (fun _ => rfl)
          · intro a' w' hs hp he
            have e7 := hs 7 (by kernel_rfl)
            try simp [Is, Region.binds] at he
            exact op_val rfl (wanted_none rfl) (by first | (go_simp; done) | (go_simp; rfl) | (simp [execOp, Act.eval, go_sem, *]; done) | (simp [execOp, Act.eval, go_sem, *]; rfl)) rfl (Pu.refl _)
          · intro a' w' hs hp he
            try simp [Is, Region.binds] at he
            have hc := HCS.out _ hp; exact op_val rfl (wanted_none rfl) (by first | (go_simp; done) | (go_simp; rfl)) rfl (Pu.refl _)
          · intro a' w' hs hp he
            have e10 := hs 10 (by kernel_rfl)
            try simp [Is, Region.binds] at he
            exact op_val rfl (wanted_none rfl) (by first | (go_simp; done) | (go_simp; rfl) | (simp [execOp, Act.eval, go_sem, *]; done) | (simp [execOp, Act.eval, go_sem, *]; rfl)) rfl (Pu.refl _)
          · intro a' w' hs hp he
            try simp [Is, Region.binds] at he
            exact op_val rfl (wanted_none rfl) (by first | (go_simp; done) | (go_simp; rfl) | (simp [execOp, Act.eval, go_sem, *]; done) | (simp [execOp, Act.eval, go_sem, *]; rfl)) rfl (Pu.refl _)
          · intro a' w' hs hp he
            try simp [Is, Region.binds] at he
            exact op_val rfl (wanted_none rfl) (by first | (go_simp; done) | (go_simp; rfl) | (simp [execOp, Act.eval, go_sem, *]; done) | (simp [execOp, Act.eval, go_sem, *]; rfl)) rfl (Pu.refl _)
          · intro a' w' hs hp he
            have e11 := hs 11 (by kernel_rfl)
            try simp [Is, Region.binds] at he
            exact op_val rfl (wanted_none rfl) (by first | (go_simp; done) | (go_simp; rfl) | (simp [execOp, Act.eval, go_sem, *]; done) | (simp [execOp, Act.eval, go_sem, *]; rfl)) rfl (Pu.refl _)
          · intro a' w' hs hp he
            try simp [Is, Region.binds] at he
            exact op_val rfl (wanted_none rfl) (by first | (go_simp; done) | (go_simp; rfl) | (simp [execOp, Act.eval, go_sem, *]; done) | (simp [execOp, Act.eval, go_sem, *]; rfl)) rfl (Pu.refl _)
          · intro a' w' hs hp he
            try simp [Is, Region.binds] at he
            have hk := HKE.out w'; rw [HPP.out] at hk; exact op_callP hk rfl (wanted_none rfl) (by first | (go_simp; done) | (go_simp; rfl)) (fun _ => rfl)
          · intro a' w' hs hp he
            try simp [Is, Region.binds] at he
            exact op_val rfl (wanted_none rfl) (by first | (go_simp; done) | (go_simp; rfl) | (simp [execOp, Act.eval, go_sem, *]; done) | (simp [execOp, Act.eval, go_sem, *]; rfl)) rfl (Pu.refl _)
        case hend =>
          intro a' w' hdef hsz hs hp hall
          obtain ⟨r0, r1, r2, r3, r4, r5, r6, r7, r8, r9, r10, -⟩ := hall
          have hA := agree_done (agree_step (agree_step (agree_step (agree_step (agree_step (agree_step (agree_step (agree_step (agree_step (agree_step (agree_step (agree_init [95, 96, 97, 98, 99, 100, 101, 102, 103, 104, 105] hsz hs (by kernel_rfl)) r0) r1) r2) r3) r4) r5) r6) r7) r8) r9) r10)
          have ha := act_of hA hdef
          rw [ha]
          clear ha hA hs hsz hdef r0 r1 r2 r3 r4 r5 r6 r7 r8 r9 r10 
          (try simp only [List.setIfInBounds_toArray])
          (try dsimp only [List.set_cons_zero, List.set_cons_succ])
          (try simp only [Exit.then])
          have hpf := hp3.trans (t10.since.trans hp)
          clear hp
          simp only [Option.isSome_some, if_true]
          go_wp2_with fail
          go_roundw
          case rel => exact ⟨k + 1, by omega, by go_num, by rw [← HWL.out]; exact hpf⟩
          case measure => simp [intOf]; omega
    · obtain rfl : k = 3 := by omega
      have hlt' : decide (((3 : Nat) : Int) < 3) = false := by decide
      go_wp2_with fail
      go_ret
      exact ⟨rfl, Pu.trans hp1 (Pu.trans hpM (Pu.trans hpL hpr))⟩
end Go.Proofs.YtlbdbmnkjljohaaGreat
