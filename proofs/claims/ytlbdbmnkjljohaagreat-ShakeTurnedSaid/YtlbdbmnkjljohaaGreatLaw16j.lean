/- Chapter 16: ShakeTurned. -/
import Derived.Test.YtlbdbmnkjljohaaGreatLaw16i
import Derived.Test.YtlbdbmnkjljohaaGreatReg16t
set_option linter.unusedSimpArgs false
set_option linter.unusedVariables false
namespace Go.Proofs.YtlbdbmnkjljohaaGreat
open Go.RowKit Go.Esc
/-- The last letter: another user's proof, or the same one. -/
theorem last_got (nb : Bs) (l : List UserS) (nm pap sc sj : Bs) (h1 : secV l nm = some sc) (h2 : lockV l nm 1 = false) : ∃ (o : Bs) (er : Nat) (st : HSt) (l' : List UserS), gotR nb l (hst1 nm pap) (3 :: proofL sj pap) 1 = ⟨o, er, st, l'⟩ ∧ ((er = 0 ∧ st.done = true ∧ proofL sj pap = proofL sc pap) ∨ (er = 3 ∧ st.done = false ∧ proofL sj pap ≠ proofL sc pap)) := by
  by_cases h : proofL sj pap = proofL sc pap
  · rw [h]
    exact ⟨_, _, _, _, got_proof nb l nm pap sc 1 h1 h2, .inl ⟨rfl, rfl, rfl⟩⟩
  · exact ⟨_, _, _, _, got_wrong nb l nm pap _ sc 1 (proofL_length _ _) h1 h2 h, .inr ⟨rfl, rfl, h⟩⟩
set_option maxRecDepth 100000 in
set_option maxHeartbeats 8000000 in
theorem turned_main {w : World} (a0 : Option Addr) (len cap : Nat) (L zs : List (Bs × Bs)) (hL : Prs w a0 len L) (hzs : zs = tidyU L) (hgood : goodUs zs) (k j at' : Int) (a b : Bs) (y : UInt8) (b1 : 2 ≤ len) (b2 : len ≤ 10) (hyz : y.toNat ≠ 0) (b4 : a.length ≤ 60) (b5 : b.length ≤ 60) :
    Calls Tryz.prog 10 #[.slice a0 len cap, .int .i64 k, .int .i64 j, S a, S b, .int .i64 at', .int .u8 (y.toNat : Int)] w fun e w' => e = .returned (.bool true) ∧ Pu w w' := by
  have q0 : ¬ (len : Int) < 2 := by omega
  have q1 : ¬ (10 : Int) < len := by omega
  have q2 : ((y.toNat : Int) == 0) = false := by simp; omega
  have q3 : ¬ (y.toNat : Int) = 0 := by omega
  have q4 : ¬ (60 : Int) < a.length := by omega
  have q5 : ¬ (60 : Int) < b.length := by omega
  have hy0 : y ≠ 0 := fun e => hyz (by rw [e]; rfl)
  have hi2 : (Tryz.prog.info? 23).map (·.size) = some 2 := by kernel_rfl
  have hll := hL.length
  have hsmall : ∀ x ∈ tidyU L, x.1.length ≤ 9223372036854775807 := by
    intro x hx
    obtain ⟨y, hy, rfl⟩ := List.mem_map.1 hx
    have := (hL.small y hy).1
    unfold maxLen at this
    exact this
  have hzl := tidyU_length L
  rw [← hzs] at hsmall hzl
  have hzn : len = zs.length := by omega
  obtain ⟨i, r, e1, -, -, e2, e3, hi⟩ := index_ofU k len (by omega) (by omega)
  obtain ⟨i2, r2, e1', -, -, e2', e3', hi2'⟩ := index_ofU j len (by omega) (by omega)
  obtain ⟨ii, r3, f1, -, -, f2, f3, hii⟩ := index_of32 at'
  have q6 : ((len : Int) == 0) = false := by simp; omega
  have q7 : ¬ (len : Int) = 0 := by omega
  have q8 : ¬ len = 0 := by omega
  have hiz : i < zs.length := by omega
  have hiz2 : i2 < zs.length := by omega
  have hub := hgood.1 _ (List.getElem_mem hiz)
  have hub2 := hgood.1 _ (List.getElem_mem hiz2)
  have hfa := flatU_at zs i hiz
  have hfg := flatU_get2 zs i hiz
  have hfg2 := flatU_get2 zs i2 hiz2
  have hfl := flatU_length zs
  have hF2 := fun w => fillW a 16 (by omega) (by decide) w
  have hF3 := fun w => fillW b 16 (by omega) (by decide) w
  have hal := fillL_len a 16
  have hbl := fillL_len b 16
  obtain ⟨na, hnae⟩ : ∃ x, x = fillL a 16 := ⟨_, rfl⟩
  obtain ⟨nb, hnbe⟩ : ∃ x, x = fillL b 16 := ⟨_, rfl⟩
  rw [← hnae] at hF2 hal
  rw [← hnbe] at hF3 hbl
  have hsec := mkU_sec hgood hiz
  have hlk := mkU_lock hgood hiz 1
  have hsec2 := turn_sec hgood hiz
  have hlk2 := turn_lock hgood hiz 1
  have hfv := turn_fails hgood hiz
  have hu := mkU_len hgood
  have hu2 := turn_len hgood (zs[i]).1
  have hfg0 : (flatU zs)[i * 2]? = some (S (zs[i]).1) := flatU_get zs i hiz
  obtain ⟨nm, hnm⟩ : ∃ x, x = (zs[i]).1 := ⟨_, rfl⟩
  obtain ⟨sc, hsc⟩ : ∃ x, x = (zs[i]).2 := ⟨_, rfl⟩
  obtain ⟨nj, hnj⟩ : ∃ x, x = (zs[i2]).1 := ⟨_, rfl⟩
  obtain ⟨sj, hsj⟩ : ∃ x, x = (zs[i2]).2 := ⟨_, rfl⟩
  rw [← hnm, ← hsc] at hub hfa
  rw [← hnj, ← hsj] at hub2
  rw [← hsc] at hfg
  rw [← hsj] at hfg2
  rw [← hnm] at hfg0 hlk hlk2 hfv hu2
  rw [← hnm, ← hsc] at hsec hsec2
  have hub3 : userB nm sj = true := by
    unfold userB at hub hub2 ⊢
    simp at hub hub2 ⊢
    exact ⟨hub.1, hub2.2⟩
  have hubb := hub
  unfold userB at hubb
  simp at hubb
  have hnl := nameB_len hubb.1
  have hsl := hubb.2
  have hubb2 := hub2
  unfold userB at hubb2
  simp at hubb2
  have hsl2 := hubb2.2
  have hgo : guestOk nm sc na := ⟨hub, hal⟩
  have hgo2 : guestOk nm sj na := ⟨hub3, hal⟩
  have hNg := fun w => newGuest nm sc na hgo w
  have hNg2 := fun w => newGuest nm sj na hgo2 w
  have hNh := fun ub w => newHost ub nb hbl w
  obtain ⟨l, hl⟩ : ∃ l, l = mkU zs := ⟨_, rfl⟩
  rw [← hl] at hsec hlk hsec2 hlk2 hfv hu hu2
  obtain ⟨l2, hl2⟩ : ∃ x, x = modN l nm (failS 1) := ⟨_, rfl⟩
  rw [← hl2] at hsec2 hlk2 hfv hu2
  have g1' := got_hello nb l nm na 1 hgo.hello
  have g5' := got_hello nb l2 nm na 1 hgo.hello
  have g2' := chal_ok sc (helloL nm na) nb hbl
  have g6' := chal_ok sj (helloL nm na) nb hbl
  obtain ⟨pap, hpap⟩ : ∃ x, x = helloL nm na ++ chalL nb := ⟨_, rfl⟩
  have hhl : (helloL nm na).length = 2 + nm.length + 16 := by rw [helloL_length, hal]
  have hcl : (chalL nb).length = 17 := by simp [chalL, hbl]
  have hpl : pap.length = 2 + nm.length + 16 + 17 := by rw [hpap, List.length_append, hhl, hcl]
  obtain ⟨hel, hhel⟩ : ∃ x, x = helloL nm na := ⟨_, rfl⟩
  obtain ⟨c, hce⟩ : ∃ x, x = chalL nb := ⟨_, rfl⟩
  have hP1 : ∀ w, Calls Tryz.prog 19 #[S sj, S (hel ++ c)] w fun e w' => e = .returned (S (proofL sj pap)) ∧ Pu w w' := fun w => by
    rw [hhel, hce, ← hpap]
    exact refProof sj pap (by omega) (by omega) w
  have hP2 : ∀ w, Calls Tryz.prog 19 #[S sc, S (hel ++ c)] w fun e w' => e = .returned (S (proofL sc pap)) ∧ Pu w w' := fun w => by
    rw [hhel, hce, ← hpap]
    exact refProof sc pap (by omega) (by omega) w
  rw [← hpap] at g1' g2' g5' g6'
  have hii2 : ii < (proofL sc pap).length := by rw [proofL_length]; exact hii
  have hne := set_ne (proofL sc pap) ii hii2 y hy0
  have g3' := got_wrong nb l nm pap ((proofL sc pap).set ii ((proofL sc pap)[ii] ^^^ y)) sc 1 (by rw [List.length_set]; exact proofL_length _ _) hsec hlk hne
  rw [← hl2] at g3'
  obtain ⟨o8, er, st8, l8, g8', hcase⟩ := last_got nb l2 nm pap sc sj hsec2 hlk2
  have hprl : (3 :: proofL sc pap).length = 33 := by simp [proofL_length]
  have hpjl : (3 :: proofL sj pap).length = 33 := by simp [proofL_length]
  obtain ⟨jj, hjj⟩ : ∃ x, x = 1 + ii := ⟨_, rfl⟩
  have hm2e : (3 :: (proofL sc pap).set ii ((proofL sc pap)[ii] ^^^ y)) = (3 :: proofL sc pap).set jj ((proofL sc pap)[ii] ^^^ y) := by
    rw [hjj, Nat.add_comm, List.set_cons_succ]
  have hxe : (3 :: proofL sc pap)[jj]? = some ((proofL sc pap)[ii]) := by
    rw [hjj, Nat.add_comm, List.getElem?_cons_succ, List.getElem?_eq_getElem hii2]
  rw [hm2e] at g3'
  obtain ⟨pc, hpc⟩ : ∃ x, x = proofL sc pap := ⟨_, rfl⟩
  obtain ⟨pj, hpj⟩ : ∃ x, x = proofL sj pap := ⟨_, rfl⟩
  obtain ⟨x, hx⟩ : ∃ x, x = (proofL sc pap)[ii] := ⟨_, rfl⟩
  obtain ⟨v, hv⟩ : ∃ v, v = x ^^^ y := ⟨_, rfl⟩
  have hxv : Go.bits .xor .u8 (x.toNat : Int) (y.toNat : Int) = (v.toNat : Int) := by rw [xor_val, hv]
  rw [← hx, ← hv] at g3'
  rw [← hx] at hxe
  rw [← hpc] at g2' g3' hprl hxe hcase hP2
  rw [← hpj] at g6' g8' hpjl hcase hP1
  obtain ⟨pr, hpr⟩ : ∃ x, x = 3 :: pc := ⟨_, rfl⟩
  obtain ⟨pr2, hpr2⟩ : ∃ x, x = 3 :: pj := ⟨_, rfl⟩
  rw [← hpr] at g2' g3' hprl hxe
  rw [← hpr2] at g6' g8' hpjl
  obtain ⟨m2, hm2⟩ : ∃ m2, m2 = pr.set jj v := ⟨_, rfl⟩
  have hm2l : m2.length = 33 := by rw [hm2, List.length_set]; exact hprl
  rw [← hm2] at g3'
  have hjl : jj < pr.length := by omega
  have hxj : pr[jj]'hjl = x := by rw [List.getElem?_eq_getElem hjl] at hxe; exact Option.some.inj hxe
  have w5 : IntKind.i64.wrap (1 + (ii : Int)) = jj := by rw [IntKind.wrap_i64]; omega
  have w6 : (0 : Int) ≤ jj := by omega
  have w7 : (jj : Int) < 33 := by omega
  rw [← hce] at g1' g2' g5' g6' hcl
  rw [← hhel] at g1' g2' g5' g6' hhl
  have c2 : ¬ (9223372036854775807 < hel.length + c.length) := by omega
  have G1 := Lib.hid g1'
  have G2 := Lib.hid g2'
  have G3 := Lib.hid g3'
  have G5 := Lib.hid g5'
  have G6 := Lib.hid g6'
  have G8 := Lib.hid g8'
  have HF2 := Lib.hid hF2
  have HF3 := Lib.hid hF3
  have HNG := Lib.hid hNg
  have HNG2 := Lib.hid hNg2
  have HNH := Lib.hid hNh
  have HHEL := Lib.hid hhel
  have HU := Lib.hid hu
  have HU2 := Lib.hid hu2
  have HGO := Lib.hid hgo
  have HGO2 := Lib.hid hgo2
  have HGD := Lib.hid hgood
  have HFA := Lib.hid hfa
  have HFG := Lib.hid hfg
  have HFG2 := Lib.hid hfg2
  have HFG0 := Lib.hid hfg0
  have HFL := Lib.hid hfl
  have HLL := Lib.hid hl
  have HPL := Lib.hid hpl
  have HHL := Lib.hid hhl
  have HL := Lib.hid hL
  have HZS := Lib.hid hzs
  have HSM := Lib.hid hsmall
  have HZN := Lib.hid hzn
  have HCASE := Lib.hid hcase
  have HP1 := Lib.hid hP1
  have HP2 := Lib.hid hP2
  have HFV := Lib.hid hfv
  have HSET := Lib.hid hm2.symm
  have HM2 := Lib.hid hm2l
  have HXJ := Lib.hid hxj
  have HI := Lib.hid hi
  have HI2 := Lib.hid hi2'
  have T1 := Lib.hid True.intro
  have T2 := Lib.hid True.intro
  have T3 := Lib.hid True.intro
  have T4 := Lib.hid True.intro
  have T5 := Lib.hid True.intro
  have k0 : (0 : Int) ≤ i := by omega
  have k1 : (i : Int) < len := by omega
  have k2 : (0 : Int) ≤ i2 := by omega
  have k3 : (i2 : Int) < len := by omega
  clear g1' g2' g3' g5' g6' g8' hF2 hF3 hNg hNg2 hNh hhel hu hu2 hgo hgo2 hgood hfa hfg hfg2 hfg0 hfl hl hl2 hpl hhl hL hzs hsmall hzl hll hcase hP1 hP2 hfv hm2 hm2l hxj hxe hx hv hsec hlk hsec2 hlk2 hub hub2 hub3 hubb hubb2 hnm hsc hnj hsj hpap hpr hpr2 hpc hpj hce hnae hnbe hzn hne hm2e hii2 hjj hy0 hyz hiz hiz2
  go_enter Tryz.func10, Tryz.ntmps10
  go_wp2_with (first
    | (go_at_call 12; refine (alive16 _).mono ?_; rintro e w1 ⟨rfl, hp1⟩)
    | (go_at_call 26; refine (tidy (HL.out.keep hp1) (by omega)).mono ?_; rw [← HZS.out]; rintro e w2 ⟨v, rfl, ho, hp2⟩; obtain ⟨g, cv, rfl, hrz⟩ := ownN_form ho (by omega))
    | (go_at_call 27; refine (refUsers zs HZN.out (by omega) (fun _ => ⟨g, rfl, hrz⟩) HSM.out).mono ?_; rintro e w3 ⟨bb, rfl, hbb, hp3⟩; obtain rfl : bb = true := hbb.2 ⟨HGD.out, by have := HZN.out; omega⟩
       clear hbb
       have hrz3 := hrz.pu hp3))
  clear hrz ho
  refine regT6 q6 q7 q8 e1 e2 e3 e1' e2' e3' ?hend
  case hend =>
    intro o60 o61 o62 o63 o64 o65 o66 o67 o68 o69 o70 o71 o72 o73 o74 o75 o76 o77 o78 o79 w4 hp4
    have hrz4 := hrz3.pu hp4
    (try simp only [Exit.inBlock, Exit.then])
    go_wp2_with (first
      | (go_at_call 28; refine (newUsers zs HZN.out (by omega) (fun _ => ⟨g, rfl, hrz4⟩) HGD.out).mono ?_; rw [← HLL.out]; rintro e w5 ⟨ub, rfl, hu5, hp5⟩
         have hrz5 := hrz4.pu hp5)
      | (go_at_call 16; clear T1; refine (HF2.out _).mono ?_; rintro e w6 ⟨rfl, rfl⟩)
      | (go_at_call 16; refine (HF3.out _).mono ?_; rintro e w6 ⟨rfl, rfl⟩)
      | (refine wpList_load_part rfl 23 (.tmp 91) rfl g (i*2) 2 (by rfl) hrz5 Tryz.underlying23 rfl hi2 (by rw [HFL.out]; have := HZN.out; have := HI.out; omega) ?_; rw [HFA.out])
      | (go_at_call 13; refine (HNG.out _).mono ?_; rintro e w7 ⟨gb, rfl, hg7, hgl7, hp7⟩)
      | (go_at_call 29; refine (HNH.out ub _).mono ?_; rintro e w8 ⟨hb, rfl, hh8, hhl8, hp8⟩
         have t8 := Trio.start hu5 hp5 (fun x hx => hx.1) hg7 hgl7 hp7 hh8 hhl8 hp8
         clear hu5 hg7 hh8 hp7 hp8 hgl7 hhl8)
      | (go_at_call 24; refine (helloG t8.g).mono ?_; rw [← HHEL.out]; rintro e w9 ⟨rfl, rfl⟩)
      | (go_at_call 30; clear T2; refine (trioGot t8 hbl HU.out (by decide) (by decide) (by decide) hel (by rw [HHL.out]; omega) 1 (by decide) (by decide)).mono ?_; rw [G1.out]; rintro e w10 ⟨rfl, t10⟩)
      | (go_at_call 18; refine (trioChal t10 (by decide) HGO.out c (by omega)).mono ?_; rw [← HHEL.out, G2.out]; rintro e w11 ⟨rfl, t11⟩)
      | (refine wpList_bytes _ rfl (.tmp 124) 9 42 5 rfl pr (by first | rfl | simp [Act.eval]) Tryz.underlying9 Tryz.underlying42 Tryz.underlying5 ?_; intro u12 cap hrow hpu hcap; have hc := hrow.byte jj hjl; rw [HXJ.out] at hc; have hf := hrow.frozen jj (by rw [cells_length]; omega); have hrw := hrow.set jj (.int .u8 (v.toNat : Int)); rw [cells_set, HSET.out] at hrw; have hcv := Row.conv (P := Tryz.prog) (cap := cap) (n := 33) 42 9 hrw HM2.out.symm Tryz.underlying42 Tryz.underlying5 Tryz.underlying9
         have t12 := t11.pu (hpu.setCell (p := ⟨w11.heap.size, jj, none⟩) (Nat.le_refl _) (.int .u8 (v.toNat : Int)))
         clear hrow hrw hpu)
      | (go_at_call 30; refine (trioGot t12 hbl HU.out (by show List.length nm ≤ 1000000; omega) (by show List.length pap ≤ 10000; rw [HPL.out]; omega) (by show (1 : Nat) ≤ 1000; omega) m2 (by rw [HM2.out]; omega) 1 (by decide) (by decide)).mono ?_; rw [G3.out]; rintro e w13 ⟨rfl, t13⟩)
      | (go_at_call 31; refine (doneW t13.h).mono ?_; rintro e w13 ⟨rfl, rfl⟩)
      | (go_at_call 33; refine (hostKeys t13.h).mono ?_; rintro e w14 ⟨rfl, hp14⟩
         have t14 := t13.pu hp14
         have hrz14 := hrz4.pu t14.since
         have hcN := hrz14.cell' (i * 2) (by rw [HFL.out]; have := HZN.out; have := HI.out; omega)
         rw [HFG0.out] at hcN)
      | (go_at_call 41; refine (failsW t14.u nm (by omega)).mono ?_; rw [HFV.out]; rintro e w14 ⟨rfl, rfl⟩))
    refine regT21 k0 k1 k2 k3 (fun w' hp => ?c1) (fun w' hp => ?c2) HNG2.out ?h21
    case c1 =>
      have := (hrz14.pu hp).cell' (i * 2) (by rw [HFL.out]; have := HZN.out; have := HI.out; omega)
      rw [HFG0.out] at this
      exact this
    case c2 =>
      have := (hrz14.pu hp).cell' (i2 * 2 + 1) (by rw [HFL.out]; have := HZN.out; have := HI2.out; omega)
      rw [HFG2.out] at this
      exact this
    case h21 =>
      intro o166 o167 o168 o169 o170 o171 o172 o173 o174 o175 o176 o177 o178 w15 gb2 hg15 hgl15 hp15
      (try simp only [Exit.inBlock, Exit.then])
      go_wp2_with (first
        | (go_at_call 29; refine (HNH.out ub _).mono ?_; rintro e w16 ⟨hb2, rfl, hh16, hhl16, hp16⟩
           have t16 := Trio.start t14.u t14.since t14.lo hg15 hgl15 hp15 hh16 hhl16 hp16
           clear hg15 hh16 hp15 hp16 hgl15 hhl16 t14 hrz14)
        | (go_at_call 24; refine (helloG t16.g).mono ?_; rw [← HHEL.out]; rintro e w17 ⟨rfl, rfl⟩)
        | (go_at_call 30; clear T3; refine (trioGot t16 hbl HU2.out (by decide) (by decide) (by decide) hel (by rw [HHL.out]; omega) 1 (by decide) (by decide)).mono ?_; rw [G5.out]; rintro e w17 ⟨rfl, t17⟩)
        | (go_at_call 18; refine (trioChal t17 (by decide) HGO2.out c (by omega)).mono ?_; rw [← HHEL.out, G6.out]; rintro e w18 ⟨rfl, t18⟩)
        | (go_at_call 30; refine (trioGot t18 hbl HU2.out (by show List.length nm ≤ 1000000; omega) (by show List.length pap ≤ 10000; rw [HPL.out]; omega) (by show (1 : Nat) ≤ 1000; omega) pr2 (by omega) 1 (by decide) (by decide)).mono ?_; rw [G8.out]; rintro e w19 ⟨rfl, t19⟩))
      have hrz19 := hrz4.pu t19.since
      have hC1 : ∀ w', Pu w19 w' → w'.cell? ⟨g, i * 2 + 1, none⟩ = some (S sc) := fun w' hp => by
        have := (hrz19.pu hp).cell' (i * 2 + 1) (by rw [HFL.out]; have := HZN.out; have := HI.out; omega)
        rw [HFG.out] at this
        exact this
      have hC2 : ∀ w', Pu w19 w' → w'.cell? ⟨g, i2 * 2 + 1, none⟩ = some (S sj) := fun w' hp => by
        have := (hrz19.pu hp).cell' (i2 * 2 + 1) (by rw [HFL.out]; have := HZN.out; have := HI2.out; omega)
        rw [HFG2.out] at this
        exact this
      have hH : ∀ w', Pu w19 w' → Calls Tryz.prog 24 #[.pointer (some ⟨gb2, 0, none⟩)] w' fun e w'' => e = .returned (S hel) ∧ w'' = w' := fun w' hp => by
        have := helloG (t19.pu hp).g
        rw [← HHEL.out] at this
        exact this
      have hD := fun w' (hp : Pu w19 w') => doneW (t19.pu hp).h
      have HP0 := Lib.hid ((hp1.trans (hp2.trans (hp3.trans hp4))))
      rcases HCASE.out with ⟨rfl, hd, he⟩ | ⟨rfl, hd, hne⟩
      · subst he
        simp only [hd] at hD
        refine regT28a k0 k1 k2 k3 c2 hC1 hC2 hH HP1.out HP2.out hD ?hend
        case hend =>
          intro o207 o208 o209 o210 o211 o212 o213 o214 o215 o216 o217 o218 o219 o220 o221 o222 o223 o224 o225 o226 o227 o228 o229 o230 o231 o232 o233 o234 o235 o236 o237 w20 hp20
          (try simp only [Exit.inBlock, Exit.then])
          go_wp2_with fail
          go_ret
          exact ⟨rfl, HP0.out.trans (t19.pu hp20).since⟩
      · simp only [hd] at hD
        have hb2 : ¬ bs pj = bs pc := fun e => hne (bs_inj e)
        have hb1 : (pj == pc) = false := by simpa using hne
        refine regT28b k0 k1 k2 k3 c2 hb1 hb2 hC1 hC2 hH HP1.out HP2.out hD ?hend
        case hend =>
          intro o207 o208 o209 o210 o211 o212 o213 o214 o215 o216 o217 o218 o219 o220 o221 o222 o223 o224 o225 o226 o227 o228 o229 o230 o231 o232 o233 o234 o235 o236 o237 w20 hp20
          (try simp only [Exit.inBlock, Exit.then])
          go_wp2_with fail
          go_ret
          exact ⟨rfl, HP0.out.trans (t19.pu hp20).since⟩
theorem shakeTurned_walk {w : World} (a0 : Option Addr) (len cap : Nat) (hz : IsPrs w a0 len cap) (k : Int) (_hk : (Lit.int .i64 k).wf = true) (j : Int) (_hj : (Lit.int .i64 j).wf = true) (s2 : ByteArray) (_z2 : s2.size ≤ maxLen) (s3 : ByteArray) (_z3 : s3.size ≤ maxLen) (at' : Int) (_hat : (Lit.int .i64 at').wf = true) (by' : Int) (hby : (Lit.int .u8 by').wf = true) :
    Calls Tryz.prog 10 #[.slice a0 len cap, .int .i64 k, .int .i64 j, .string s2, .string s3, .int .i64 at', .int .u8 by'] w fun e w' => e = .returned (.bool true) ∧ Pu w w' := by
  obtain ⟨a, rfl⟩ : ∃ a, s2 = bs a := ⟨_, bs_eta s2⟩
  obtain ⟨b, rfl⟩ : ∃ a, s3 = bs a := ⟨_, bs_eta s3⟩
  obtain ⟨L, hL, hlm⟩ := hz.prs
  obtain ⟨y, rfl⟩ := u8_ofh (bndU8h hby)
  by_cases h : 2 ≤ len ∧ len ≤ 10 ∧ y.toNat ≠ 0 ∧ a.length ≤ 60 ∧ b.length ≤ 60
  rotate_left
  · exact turned_few a0 len cap k j at' a b y h
  obtain ⟨h1, h2, h3, h4, h5⟩ := h
  by_cases hg : goodUs (tidyU L)
  · exact turned_main a0 len cap L _ hL rfl hg k j at' a b y h1 h2 h3 h4 h5
  · exact turned_bad a0 len cap L _ hL rfl hg k j at' a b y h1 h2 h3 h4 h5
end Go.Proofs.YtlbdbmnkjljohaaGreat
