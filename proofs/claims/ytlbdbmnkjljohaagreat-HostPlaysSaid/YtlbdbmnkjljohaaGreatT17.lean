/- Chapter 16: the first call. -/
import Derived.Test.YtlbdbmnkjljohaaGreatT16
set_option linter.unusedSimpArgs false
set_option linter.unusedVariables false
set_option linter.unusedSimpArgs false
set_option linter.unusedVariables false
namespace Go.Proofs.YtlbdbmnkjljohaaGreat
open Go.RowKit Go.Esc
def annW : Bs := [97, 110, 110]
def nonG : Bs := [48, 49, 50, 51, 52, 53, 54, 55, 56, 57, 97, 98, 99, 100, 101, 102]
def nonH : Bs := [102, 101, 100, 99, 98, 97, 57, 56, 55, 54, 53, 52, 51, 50, 49, 48]
def secS : Bs := fillL [115] 32
def papA : Bs := helloL annW nonG ++ chalL nonH
theorem ann_user : userB annW secS = true := by decide +kernel
theorem ann_guest : guestOk annW secS nonG := ⟨ann_user, by decide +kernel⟩
theorem keys_apart : decide (upL secS papA = downL secS papA) = false := by decide +kernel
set_option maxRecDepth 100000 in
set_option maxHeartbeats 3200000 in
theorem alive16 (w : World) : Calls Tryz.prog 12 #[] w fun e w' => e = .returned (.bool true) ∧ Pu w w' := by
  have hi2 : (Tryz.prog.info? 44).map (·.size) = some 2 := by kernel_rfl
  have hF := fun w => fill [115] 32 (by decide) (by decide) w
  have hus := ann_user
  have hgo := ann_guest
  have hsl : secS.length = 32 := by decide +kernel
  have hka := keys_apart
  have hhl : (helloL annW nonG).length = 21 := by decide +kernel
  have hpl : papA.length = 38 := by decide +kernel
  have hnl : nonH.length = 16 := by decide
  have hu := mkU_len (one_ok hus)
  have e1 := fun now => got_hello nonH (mkU [(annW, secS)]) annW nonG now hgo.hello
  have e2 := chal_ok secS (helloL annW nonG) nonH hnl
  have e3 := fun now => got_proof nonH (mkU [(annW, secS)]) annW papA secS now (one_sec _ _) (one_lock _ _ _)
  rw [one_good] at e3
  have e4 := fin_ok secS papA
  have hUs := fun w => newOne annW secS hus w
  have hNg := fun w => newGuest annW secS nonG hgo w
  have hNh := fun ub w => newHost ub nonH hnl w
  change ∀ w, Calls Tryz.prog 16 #[S [115], .int .i64 32] w fun e w' => e = .returned (S secS) ∧ w' = w at hF
  rw [show helloL annW nonG ++ chalL nonH = papA from rfl] at e1 e2
  have hcl : (chalL nonH).length = 17 := by decide
  have hprl : (3 :: proofL secS papA).length = 33 := by simp [proofL_length]
  have hfil : (4 :: finishL secS papA).length = 33 := by simp [finishL_length]
  have hul : (upL secS papA).length = 32 := deriveL_length _ _ _
  have hsv : keysO secS papA true = [S (upL secS papA), S (downL secS papA)] := rfl
  have hk2 : hst2 annW papA secS = ⟨2, false, annW, papA, true, upL secS papA, downL secS papA⟩ := rfl
  obtain ⟨up, hup⟩ : ∃ x, x = upL secS papA := ⟨_, rfl⟩
  obtain ⟨dn, hdn⟩ : ∃ x, x = downL secS papA := ⟨_, rfl⟩
  rw [← hup, ← hdn] at hka hsv hk2
  rw [← hup] at hul
  have hne : ¬ up = dn := by simpa using hka
  have hne2 : (up == dn) = false := by simpa using hne
  have hhg : ∀ {w : World} {gb step : Nat} {papers : Bs}, GuestAt w gb annW secS nonG papers step → Calls Tryz.prog 24 #[.pointer (some ⟨gb, 0, none⟩)] w fun e w' => e = .returned (S (helloL annW nonG)) ∧ w' = w := fun h => helloG h
  obtain ⟨c, hc⟩ : ∃ x, x = chalL nonH := ⟨_, rfl⟩
  obtain ⟨pr, hpr⟩ : ∃ x, x = 3 :: proofL secS papA := ⟨_, rfl⟩
  obtain ⟨fi, hfi⟩ : ∃ x, x = 4 :: finishL secS papA := ⟨_, rfl⟩
  obtain ⟨hel, hhel⟩ : ∃ x, x = helloL annW nonG := ⟨_, rfl⟩
  rw [← hc] at hcl e1 e2
  rw [← hpr] at hprl e2 e3
  rw [← hfi] at hfil e3 e4
  rw [← hhel] at hhl e1 e2
  have E1 := Lib.hid e1
  have E2 := Lib.hid e2
  have E3 := Lib.hid e3
  have E4 := Lib.hid e4
  have HF := Lib.hid hF
  have HUS := Lib.hid hUs
  have HNG := Lib.hid hNg
  have HNH := Lib.hid hNh
  have HC := Lib.hid hc
  have HHEL := Lib.hid hhel
  have HSV := Lib.hid hsv
  have HK2 := Lib.hid hk2
  have HU := Lib.hid hu
  have HGO := Lib.hid hgo
  have T1 := Lib.hid True.intro
  have k115 : (ByteArray.mk #[115]) = bs [115] := rfl
  have kann : (ByteArray.mk #[97, 110, 110]) = bs annW := rfl
  have kng : (ByteArray.mk #[48, 49, 50, 51, 52, 53, 54, 55, 56, 57, 97, 98, 99, 100, 101, 102]) = bs nonG := rfl
  have knh : (ByteArray.mk #[102, 101, 100, 99, 98, 97, 57, 56, 55, 54, 53, 52, 51, 50, 49, 48]) = bs nonH := rfl
  clear e1 e2 e3 e4 hF hUs hNg hNh hc hpr hfi hhel hsv hk2 hu hgo hus hup hdn hka
  go_enter Tryz.func12, Tryz.ntmps12
  go_wp2_with (first
    | (go_at_call 16; refine (HF.out _).mono ?_; rintro e w1 ⟨rfl, rfl⟩)
    | (go_at_call 28; refine (HUS.out _).mono ?_; rintro e w2 ⟨ub, G, rfl, hu2, hlo, hp2⟩)
    | (go_at_call 13; refine (HNG.out _).mono ?_; rintro e w3 ⟨gb, rfl, hg3, hgl, hp3⟩)
    | (go_at_call 29; refine (HNH.out ub _).mono ?_; rintro e w4 ⟨hb, rfl, hh4, hhl, hp4⟩
       have t4 := Trio.start hu2 hp2 hlo hg3 hgl hp3 hh4 hhl hp4
       clear hu2 hg3 hh4 hp2 hp3 hp4)
    | (go_at_call 24; refine (helloG t4.g).mono ?_; rw [← HHEL.out]; rintro e w5 ⟨rfl, rfl⟩)
    | (go_at_call 30; clear T1; refine (trioGot t4 hnl HU.out (by decide) (by decide) (by decide) hel (by omega) 1 (by decide) (by decide)).mono ?_; rw [E1.out]; rintro e w6 ⟨rfl, t6⟩)
    | (go_at_call 18; refine (trioChal t6 (by decide) HGO.out c (by omega)).mono ?_; rw [← HHEL.out, E2.out]; rintro e w7 ⟨rfl, t7⟩)
    | (go_at_call 30; refine (trioGot t7 hnl HU.out (by decide) (by show List.length papA ≤ 10000; omega) (by decide) pr (by omega) 2 (by decide) (by decide)).mono ?_; rw [E3.out]; rintro e w8 ⟨rfl, t8⟩)
    | (go_at_call 22; refine (trioFin t8 (by decide) HGO.out (by omega) fi (by omega)).mono ?_; rw [E4.out]; simp only; rw [HSV.out]; rintro e w9 ⟨rfl, t9⟩)
    | (refine wpList_store_part rfl 44 (.tmp 12) (.tmp 56) rfl w9.heap.size 0 [S up, S dn] (by rfl) (by rfl) (Row.newAt w9 w9.heap.size _ _ rfl rfl) hi2 (by simp) (by simp [Value.oneCell']) ?_; intro w10 hr10 hch10))
  rw [splice_all (by rfl)] at hr10
  have hp10 : Pu w9 w10 := hch10.below ((Pu.refl w9).alloc _) (Nat.le_refl _)
  have t10 := t9.pu hp10
  rw [HK2.out] at t10
  clear hch10 hp10 t9 t8 t7 t6 t4
  have hl10 := fun w' (hp : Pu w10 w') => (hr10.pu hp).load (P := Tryz.prog) 44 0 2 Tryz.underlying44 rfl hi2 (by simp)
  have hc0 := fun w' (hp : Pu w10 w') => (hr10.pu hp).cell 0 (by simp)
  have hc1 := fun w' (hp : Pu w10 w') => (hr10.pu hp).cell 1 (by simp)
  simp at hc0 hc1
  have HL10 := Lib.hid hl10
  have HC0 := Lib.hid hc0
  have HC1 := Lib.hid hc1
  clear hl10 hc0 hc1 hr10
  apply region_pu (Φs := (Is _ :: Is _ :: Is _ :: Is _ :: Is _ :: Is _ :: Is _ :: Is _ :: Is _ :: Is _ :: Is _ :: Is _ :: Is _ :: Is _ :: Is _ :: Is _ :: Is _ :: Is _ :: Is _ :: Is _ :: Is _ :: Is _ :: Is _ :: Is _ :: Is _ :: Is _ :: Is _ :: Is _ :: Is _ :: Is _ :: Is _ :: Is _ :: Is _ :: Is _ :: Is _ :: Is _ :: Is _ :: Is _ :: Is _ :: Is _ :: Is _ :: Is _ :: Is _ :: Is _ :: Is _ :: Is _ :: Is _ :: Is _ :: [])) (hm := by kernel_rfl) (hE := by kernel_rfl) (hD := by kernel_rfl) (hsize := by kernel_rfl)
  case hop =>
    refine ⟨?_, ?_, ?_, ?_, ?_, ?_, ?_, ?_, ?_, ?_, ?_, ?_, ?_, ?_, ?_, ?_, ?_, ?_, ?_, ?_, ?_, ?_, ?_, ?_, ?_, ?_, ?_, ?_, ?_, ?_, ?_, ?_, ?_, ?_, ?_, ?_, ?_, ?_, ?_, ?_, ?_, ?_, ?_, ?_, ?_, ?_, ?_, ?_, trivial⟩
    · intro a' w' hs hp he
      have e7 := hs 7 (by kernel_rfl)
      try simp [Is, Region.binds] at he
      exact op_val rfl (wanted_none rfl) (by first | (go_simp; done) | (go_simp; rfl) | (simp [execOp, Act.eval, go_sem, *]; done) | (simp [execOp, Act.eval, go_sem, *]; rfl)) rfl (Pu.refl _)
    · intro a' w' hs hp he
      try simp [Is, Region.binds] at he
      exact op_val rfl (wanted_none rfl) (by first | (go_simp; done) | (go_simp; rfl) | (simp [execOp, Act.eval, go_sem, *]; done) | (simp [execOp, Act.eval, go_sem, *]; rfl)) rfl (Pu.refl _)
    · intro a' w' hs hp he
      try simp [Is, Region.binds] at he
      exact op_val rfl (wanted_none rfl) (by first | (go_simp; done) | (go_simp; rfl) | (simp [execOp, Act.eval, go_sem, *]; done) | (simp [execOp, Act.eval, go_sem, *]; rfl)) rfl (Pu.refl _)
    · intro a' w' hs hp he
      have e9 := hs 9 (by kernel_rfl)
      try simp [Is, Region.binds] at he
      first | exact op_skip rfl ((wanted_some rfl rfl (by first | (simp [he]; done) | (simp [he]; rfl))).trans rfl) rfl | exact op_val rfl ((wanted_some rfl rfl (by first | (simp [he]; done) | (simp [he]; rfl))).trans rfl) (by first | (go_simp; done) | (go_simp; rfl) | (simp [execOp, Act.eval, go_sem, *]; done) | (simp [execOp, Act.eval, go_sem, *]; rfl)) rfl (Pu.refl _)
    · intro a' w' hs hp he
      try simp [Is, Region.binds] at he
      first | exact op_skip rfl ((wanted_some rfl rfl (by first | (simp [he]; done) | (simp [he]; rfl))).trans rfl) rfl | exact op_val rfl ((wanted_some rfl rfl (by first | (simp [he]; done) | (simp [he]; rfl))).trans rfl) (by first | (go_simp; done) | (go_simp; rfl) | (simp [execOp, Act.eval, go_sem, *]; done) | (simp [execOp, Act.eval, go_sem, *]; rfl)) rfl (Pu.refl _)
    · intro a' w' hs hp he
      try simp [Is, Region.binds] at he
      exact op_val rfl (wanted_none rfl) (by first | (go_simp; done) | (go_simp; rfl) | (simp [execOp, Act.eval, go_sem, *]; done) | (simp [execOp, Act.eval, go_sem, *]; rfl)) rfl (Pu.refl _)
    · intro a' w' hs hp he
      try simp [Is, Region.binds] at he
      exact op_val rfl (wanted_none rfl) (by first | (go_simp; done) | (go_simp; rfl) | (simp [execOp, Act.eval, go_sem, *]; done) | (simp [execOp, Act.eval, go_sem, *]; rfl)) rfl (Pu.refl _)
    · intro a' w' hs hp he
      have e11 := hs 11 (by kernel_rfl)
      try simp [Is, Region.binds] at he
      first | exact op_skip rfl ((wanted_some rfl rfl (by first | (simp [he]; done) | (simp [he]; rfl))).trans rfl) rfl | exact op_val rfl ((wanted_some rfl rfl (by first | (simp [he]; done) | (simp [he]; rfl))).trans rfl) (by first | (go_simp; done) | (go_simp; rfl) | (simp [execOp, Act.eval, go_sem, *]; done) | (simp [execOp, Act.eval, go_sem, *]; rfl)) rfl (Pu.refl _)
    · intro a' w' hs hp he
      try simp [Is, Region.binds] at he
      first | exact op_skip rfl ((wanted_some rfl rfl (by first | (simp [he]; done) | (simp [he]; rfl))).trans rfl) rfl | exact op_val rfl ((wanted_some rfl rfl (by first | (simp [he]; done) | (simp [he]; rfl))).trans rfl) (by first | (go_simp; done) | (go_simp; rfl) | (simp [execOp, Act.eval, go_sem, *]; done) | (simp [execOp, Act.eval, go_sem, *]; rfl)) rfl (Pu.refl _)
    · intro a' w' hs hp he
      try simp [Is, Region.binds] at he
      exact op_val rfl (wanted_none rfl) (by first | (go_simp; done) | (go_simp; rfl) | (simp [execOp, Act.eval, go_sem, *]; done) | (simp [execOp, Act.eval, go_sem, *]; rfl)) rfl (Pu.refl _)
    · intro a' w' hs hp he
      try simp [Is, Region.binds] at he
      exact op_val rfl (wanted_none rfl) (by first | (go_simp; done) | (go_simp; rfl) | (simp [execOp, Act.eval, go_sem, *]; done) | (simp [execOp, Act.eval, go_sem, *]; rfl)) rfl (Pu.refl _)
    · intro a' w' hs hp he
      have e13 := hs 13 (by kernel_rfl)
      try simp [Is, Region.binds] at he
      first | exact op_skip rfl ((wanted_some rfl rfl (by first | (simp [he]; done) | (simp [he]; rfl))).trans rfl) rfl | exact op_val rfl ((wanted_some rfl rfl (by first | (simp [he]; done) | (simp [he]; rfl))).trans rfl) (by first | (go_simp; done) | (go_simp; rfl) | (simp [execOp, Act.eval, go_sem, *]; done) | (simp [execOp, Act.eval, go_sem, *]; rfl)) rfl (Pu.refl _)
    · intro a' w' hs hp he
      try simp [Is, Region.binds] at he
      first | exact op_skip rfl ((wanted_some rfl rfl (by first | (simp [he]; done) | (simp [he]; rfl))).trans rfl) rfl | exact op_val rfl ((wanted_some rfl rfl (by first | (simp [he]; done) | (simp [he]; rfl))).trans rfl) (by first | (go_simp; done) | (go_simp; rfl) | (simp [execOp, Act.eval, go_sem, *]; done) | (simp [execOp, Act.eval, go_sem, *]; rfl)) rfl (Pu.refl _)
    · intro a' w' hs hp he
      try simp [Is, Region.binds] at he
      exact op_val rfl (wanted_none rfl) (by first | (go_simp; done) | (go_simp; rfl) | (simp [execOp, Act.eval, go_sem, *]; done) | (simp [execOp, Act.eval, go_sem, *]; rfl)) rfl (Pu.refl _)
    · intro a' w' hs hp he
      try simp [Is, Region.binds] at he
      exact op_val rfl (wanted_none rfl) (by first | (go_simp; done) | (go_simp; rfl) | (simp [execOp, Act.eval, go_sem, *]; done) | (simp [execOp, Act.eval, go_sem, *]; rfl)) rfl (Pu.refl _)
    · intro a' w' hs hp he
      have e5 := hs 5 (by kernel_rfl)
      try simp [Is, Region.binds] at he
      first | exact op_skip rfl ((wanted_some rfl rfl (by first | (simp [he]; done) | (simp [he]; rfl))).trans rfl) rfl | exact op_val rfl ((wanted_some rfl rfl (by first | (simp [he]; done) | (simp [he]; rfl))).trans rfl) (by first | (go_simp; done) | (go_simp; rfl) | (simp [execOp, Act.eval, go_sem, *]; done) | (simp [execOp, Act.eval, go_sem, *]; rfl)) rfl (Pu.refl _)
    · intro a' w' hs hp he
      try simp [Is, Region.binds] at he
      exact op_callP ((doneW (t10.pu hp).h).mono (by rintro e w' ⟨rfl, rfl⟩; exact ⟨rfl, Pu.refl _⟩)) rfl ((wanted_some rfl rfl (by first | (simp [he]; done) | (simp [he]; rfl))).trans rfl) (by first | (go_simp; done) | (go_simp; rfl)) (fun _ => rfl)
    · intro a' w' hs hp he
      try simp [Is, Region.binds] at he
      exact op_val rfl (wanted_none rfl) (by first | (go_simp; done) | (go_simp; rfl) | (simp [execOp, Act.eval, go_sem, *]; done) | (simp [execOp, Act.eval, go_sem, *]; rfl)) rfl (Pu.refl _)
    · intro a' w' hs hp he
      try simp [Is, Region.binds] at he
      exact op_val rfl (wanted_none rfl) (by first | (go_simp; done) | (go_simp; rfl) | (simp [execOp, Act.eval, go_sem, *]; done) | (simp [execOp, Act.eval, go_sem, *]; rfl)) rfl (Pu.refl _)
    · intro a' w' hs hp he
      have e5 := hs 5 (by kernel_rfl)
      try simp [Is, Region.binds] at he
      first | exact op_skip rfl ((wanted_some rfl rfl (by first | (simp [he]; done) | (simp [he]; rfl))).trans rfl) rfl | exact op_val rfl ((wanted_some rfl rfl (by first | (simp [he]; done) | (simp [he]; rfl))).trans rfl) (by first | (go_simp; done) | (go_simp; rfl) | (simp [execOp, Act.eval, go_sem, *]; done) | (simp [execOp, Act.eval, go_sem, *]; rfl)) rfl (Pu.refl _)
    · intro a' w' hs hp he
      try simp [Is, Region.binds] at he
      exact op_callP ((userW (t10.pu hp).h).mono (by rintro e w' ⟨rfl, rfl⟩; exact ⟨rfl, Pu.refl _⟩)) rfl ((wanted_some rfl rfl (by first | (simp [he]; done) | (simp [he]; rfl))).trans rfl) (by first | (go_simp; done) | (go_simp; rfl)) (fun _ => rfl)
    · intro a' w' hs hp he
      try simp [Is, Region.binds] at he
      first | exact op_skip rfl ((wanted_some rfl rfl (by first | (simp [he]; done) | (simp [he]; rfl))).trans rfl) rfl | exact op_val rfl ((wanted_some rfl rfl (by first | (simp [he]; done) | (simp [he]; rfl))).trans rfl) (by first | (go_simp; done) | (go_simp; rfl) | (simp [execOp, Act.eval, go_sem, *]; done) | (simp [execOp, Act.eval, go_sem, *]; rfl)) rfl (Pu.refl _)
    · intro a' w' hs hp he
      try simp [Is, Region.binds] at he
      exact op_val rfl (wanted_none rfl) (by first | (go_simp; done) | (go_simp; rfl) | (simp [execOp, Act.eval, go_sem, *]; done) | (simp [execOp, Act.eval, go_sem, *]; rfl)) rfl (Pu.refl _)
    · intro a' w' hs hp he
      try simp [Is, Region.binds] at he
      exact op_val rfl (wanted_none rfl) (by first | (go_simp; done) | (go_simp; rfl) | (simp [execOp, Act.eval, go_sem, *]; done) | (simp [execOp, Act.eval, go_sem, *]; rfl)) rfl (Pu.refl _)
    · intro a' w' hs hp he
      have e12 := hs 12 (by kernel_rfl)
      try simp [Is, Region.binds] at he
      have hl := HL10.out _ hp; exact op_loadG rfl ((wanted_some rfl rfl (by first | (simp [he]; done) | (simp [he]; rfl))).trans rfl) 44 (.tmp 12) rfl ⟨w9.heap.size, 0, none⟩ (by first | exact e12 | (simpa [Act.eval] using e12)) hl rfl
    · intro a' w' hs hp he
      have e5 := hs 5 (by kernel_rfl)
      try simp [Is, Region.binds] at he
      first | exact op_skip rfl ((wanted_some rfl rfl (by first | (simp [he]; done) | (simp [he]; rfl))).trans rfl) rfl | exact op_val rfl ((wanted_some rfl rfl (by first | (simp [he]; done) | (simp [he]; rfl))).trans rfl) (by first | (go_simp; done) | (go_simp; rfl) | (simp [execOp, Act.eval, go_sem, *]; done) | (simp [execOp, Act.eval, go_sem, *]; rfl)) rfl (Pu.refl _)
    · intro a' w' hs hp he
      try simp [Is, Region.binds] at he
      exact op_callP (hostKeys (t10.pu hp).h) rfl ((wanted_some rfl rfl (by first | (simp [he]; done) | (simp [he]; rfl))).trans rfl) (by first | (go_simp; done) | (go_simp; rfl)) (fun _ => rfl)
    · intro a' w' hs hp he
      try simp [Is, Region.binds] at he
      first | exact op_skip rfl ((wanted_some rfl rfl (by first | (simp [he]; done) | (simp [he]; rfl))).trans rfl) rfl | exact op_val rfl ((wanted_some rfl rfl (by first | (simp [he]; done) | (simp [he]; rfl))).trans rfl) (by first | (go_simp; done) | (go_simp; rfl) | (simp [execOp, Act.eval, go_sem, *]; done) | (simp [execOp, Act.eval, go_sem, *]; rfl)) rfl (Pu.refl _)
    · intro a' w' hs hp he
      try simp [Is, Region.binds] at he
      exact op_val rfl (wanted_none rfl) (by first | (go_simp; done) | (go_simp; rfl) | (simp [execOp, Act.eval, go_sem, *]; done) | (simp [execOp, Act.eval, go_sem, *]; rfl)) rfl (Pu.refl _)
    · intro a' w' hs hp he
      try simp [Is, Region.binds] at he
      exact op_val rfl (wanted_none rfl) (by first | (go_simp; done) | (go_simp; rfl) | (simp [execOp, Act.eval, go_sem, *]; done) | (simp [execOp, Act.eval, go_sem, *]; rfl)) rfl (Pu.refl _)
    · intro a' w' hs hp he
      have e12 := hs 12 (by kernel_rfl)
      try simp [Is, Region.binds] at he
      first | exact op_skip rfl ((wanted_some rfl rfl (by first | (simp [he]; done) | (simp [he]; rfl))).trans rfl) rfl | exact op_val rfl ((wanted_some rfl rfl (by first | (simp [he]; done) | (simp [he]; rfl))).trans rfl) (by first | (go_simp; done) | (go_simp; rfl) | (simp [execOp, Act.eval, go_sem, *]; done) | (simp [execOp, Act.eval, go_sem, *]; rfl)) rfl (Pu.refl _)
    · intro a' w' hs hp he
      try simp [Is, Region.binds] at he
      have hc := HC0.out _ hp; exact op_val rfl ((wanted_some rfl rfl (by first | (simp [he]; done) | (simp [he]; rfl))).trans rfl) (by first | (go_simp; done) | (go_simp; rfl)) rfl (Pu.refl _)
    · intro a' w' hs hp he
      try simp [Is, Region.binds] at he
      first | exact op_skip rfl ((wanted_some rfl rfl (by first | (simp [he]; done) | (simp [he]; rfl))).trans rfl) rfl | exact op_val rfl ((wanted_some rfl rfl (by first | (simp [he]; done) | (simp [he]; rfl))).trans rfl) (by first | (go_simp; done) | (go_simp; rfl) | (simp [execOp, Act.eval, go_sem, *]; done) | (simp [execOp, Act.eval, go_sem, *]; rfl)) rfl (Pu.refl _)
    · intro a' w' hs hp he
      try simp [Is, Region.binds] at he
      first | exact op_skip rfl ((wanted_some rfl rfl (by first | (simp [he]; done) | (simp [he]; rfl))).trans rfl) rfl | exact op_val rfl ((wanted_some rfl rfl (by first | (simp [he]; done) | (simp [he]; rfl))).trans rfl) (by first | (go_simp; done) | (go_simp; rfl) | (simp [execOp, Act.eval, go_sem, *]; done) | (simp [execOp, Act.eval, go_sem, *]; rfl)) rfl (Pu.refl _)
    · intro a' w' hs hp he
      try simp [Is, Region.binds] at he
      exact op_val rfl (wanted_none rfl) (by first | (go_simp; done) | (go_simp; rfl) | (simp [execOp, Act.eval, go_sem, *]; done) | (simp [execOp, Act.eval, go_sem, *]; rfl)) rfl (Pu.refl _)
    · intro a' w' hs hp he
      try simp [Is, Region.binds] at he
      exact op_val rfl (wanted_none rfl) (by first | (go_simp; done) | (go_simp; rfl) | (simp [execOp, Act.eval, go_sem, *]; done) | (simp [execOp, Act.eval, go_sem, *]; rfl)) rfl (Pu.refl _)
    · intro a' w' hs hp he
      have e12 := hs 12 (by kernel_rfl)
      try simp [Is, Region.binds] at he
      first | exact op_skip rfl ((wanted_some rfl rfl (by first | (simp [he]; done) | (simp [he]; rfl))).trans rfl) rfl | exact op_val rfl ((wanted_some rfl rfl (by first | (simp [he]; done) | (simp [he]; rfl))).trans rfl) (by first | (go_simp; done) | (go_simp; rfl) | (simp [execOp, Act.eval, go_sem, *]; done) | (simp [execOp, Act.eval, go_sem, *]; rfl)) rfl (Pu.refl _)
    · intro a' w' hs hp he
      try simp [Is, Region.binds] at he
      have hc := HC0.out _ hp; exact op_val rfl ((wanted_some rfl rfl (by first | (simp [he]; done) | (simp [he]; rfl))).trans rfl) (by first | (go_simp; done) | (go_simp; rfl)) rfl (Pu.refl _)
    · intro a' w' hs hp he
      have e12 := hs 12 (by kernel_rfl)
      try simp [Is, Region.binds] at he
      first | exact op_skip rfl ((wanted_some rfl rfl (by first | (simp [he]; done) | (simp [he]; rfl))).trans rfl) rfl | exact op_val rfl ((wanted_some rfl rfl (by first | (simp [he]; done) | (simp [he]; rfl))).trans rfl) (by first | (go_simp; done) | (go_simp; rfl) | (simp [execOp, Act.eval, go_sem, *]; done) | (simp [execOp, Act.eval, go_sem, *]; rfl)) rfl (Pu.refl _)
    · intro a' w' hs hp he
      try simp [Is, Region.binds] at he
      have hc := HC1.out _ hp; exact op_val rfl ((wanted_some rfl rfl (by first | (simp [he]; done) | (simp [he]; rfl))).trans rfl) (by first | (go_simp; done) | (go_simp; rfl)) rfl (Pu.refl _)
    · intro a' w' hs hp he
      try simp [Is, Region.binds] at he
      first | exact op_skip rfl ((wanted_some rfl rfl (by first | (simp [he]; done) | (simp [he]; rfl))).trans rfl) rfl | exact op_val rfl ((wanted_some rfl rfl (by first | (simp [he]; done) | (simp [he]; rfl))).trans rfl) (by first | (go_simp; done) | (go_simp; rfl) | (simp [execOp, Act.eval, go_sem, *]; done) | (simp [execOp, Act.eval, go_sem, *]; rfl)) rfl (Pu.refl _)
    · intro a' w' hs hp he
      try simp [Is, Region.binds] at he
      exact op_val rfl (wanted_none rfl) (by first | (go_simp; done) | (go_simp; rfl) | (simp [execOp, Act.eval, go_sem, *]; done) | (simp [execOp, Act.eval, go_sem, *]; rfl)) rfl (Pu.refl _)
    · intro a' w' hs hp he
      try simp [Is, Region.binds] at he
      exact op_val rfl (wanted_none rfl) (by first | (go_simp; done) | (go_simp; rfl) | (simp [execOp, Act.eval, go_sem, *]; done) | (simp [execOp, Act.eval, go_sem, *]; rfl)) rfl (Pu.refl _)
    · intro a' w' hs hp he
      have e4 := hs 4 (by kernel_rfl)
      try simp [Is, Region.binds] at he
      first | exact op_skip rfl ((wanted_some rfl rfl (by first | (simp [he]; done) | (simp [he]; rfl))).trans rfl) rfl | exact op_val rfl ((wanted_some rfl rfl (by first | (simp [he]; done) | (simp [he]; rfl))).trans rfl) (by first | (go_simp; done) | (go_simp; rfl) | (simp [execOp, Act.eval, go_sem, *]; done) | (simp [execOp, Act.eval, go_sem, *]; rfl)) rfl (Pu.refl _)
    · intro a' w' hs hp he
      try simp [Is, Region.binds] at he
      exact op_callP ((stepG (t10.pu hp).g (by decide)).mono (by rintro e w' ⟨rfl, rfl⟩; exact ⟨rfl, Pu.refl _⟩)) rfl ((wanted_some rfl rfl (by first | (simp [he]; done) | (simp [he]; rfl))).trans rfl) (by first | (go_simp; done) | (go_simp; rfl)) (fun _ => rfl)
    · intro a' w' hs hp he
      try simp [Is, Region.binds] at he
      first | exact op_skip rfl ((wanted_some rfl rfl (by first | (simp [he]; done) | (simp [he]; rfl))).trans rfl) rfl | exact op_val rfl ((wanted_some rfl rfl (by first | (simp [he]; done) | (simp [he]; rfl))).trans rfl) (by first | (go_simp; done) | (go_simp; rfl) | (simp [execOp, Act.eval, go_sem, *]; done) | (simp [execOp, Act.eval, go_sem, *]; rfl)) rfl (Pu.refl _)
    · intro a' w' hs hp he
      try simp [Is, Region.binds] at he
      exact op_val rfl (wanted_none rfl) (by first | (go_simp; done) | (go_simp; rfl) | (simp [execOp, Act.eval, go_sem, *]; done) | (simp [execOp, Act.eval, go_sem, *]; rfl)) rfl (Pu.refl _)
    · intro a' w' hs hp he
      try simp [Is, Region.binds] at he
      exact op_val rfl (wanted_none rfl) (by first | (go_simp; done) | (go_simp; rfl) | (simp [execOp, Act.eval, go_sem, *]; done) | (simp [execOp, Act.eval, go_sem, *]; rfl)) rfl (Pu.refl _)
  case hend =>
    intro a' w' hdef hsz hs hp hall
    obtain ⟨r0, r1, r2, r3, r4, r5, r6, r7, r8, r9, r10, r11, r12, r13, r14, r15, r16, r17, r18, r19, r20, r21, r22, r23, r24, r25, r26, r27, r28, r29, r30, r31, r32, r33, r34, r35, r36, r37, r38, r39, r40, r41, r42, r43, r44, r45, r46, r47, -⟩ := hall
    have hA := agree_done (agree_step (agree_step (agree_step (agree_step (agree_step (agree_step (agree_step (agree_step (agree_step (agree_step (agree_step (agree_step (agree_step (agree_step (agree_step (agree_step (agree_step (agree_step (agree_step (agree_step (agree_step (agree_step (agree_step (agree_step (agree_step (agree_step (agree_step (agree_step (agree_step (agree_step (agree_step (agree_step (agree_step (agree_step (agree_step (agree_step (agree_step (agree_step (agree_step (agree_step (agree_step (agree_step (agree_step (agree_step (agree_step (agree_step (agree_step (agree_step (agree_init [58, 59, 60, 61, 62, 63, 64, 65, 66, 67, 68, 69, 70, 71, 72, 73, 74, 75, 76, 77, 78, 79, 80, 81, 82, 83, 84, 85, 86, 87, 88, 89, 90, 91, 92, 93, 94, 95, 96, 97, 98, 99, 100, 101, 102, 103, 104, 0] hsz hs (by kernel_rfl)) r0) r1) r2) r3) r4) r5) r6) r7) r8) r9) r10) r11) r12) r13) r14) r15) r16) r17) r18) r19) r20) r21) r22) r23) r24) r25) r26) r27) r28) r29) r30) r31) r32) r33) r34) r35) r36) r37) r38) r39) r40) r41) r42) r43) r44) r45) r46) r47)
    have ha := act_of hA hdef
    rw [ha]
    clear ha hA hs hsz hdef r0 r1 r2 r3 r4 r5 r6 r7 r8 r9 r10 r11 r12 r13 r14 r15 r16 r17 r18 r19 r20 r21 r22 r23 r24 r25 r26 r27 r28 r29 r30 r31 r32 r33 r34 r35 r36 r37 r38 r39 r40 r41 r42 r43 r44 r45 r46 r47 
    (try simp only [List.setIfInBounds_toArray])
    (try dsimp only [List.set_cons_zero, List.set_cons_succ])
    (try simp only [Exit.then])
    simp only [Option.isSome_some, if_true]
    go_wp2_with fail
    go_ret
    exact ⟨rfl, (t10.pu hp).since⟩
end Go.Proofs.YtlbdbmnkjljohaaGreat
