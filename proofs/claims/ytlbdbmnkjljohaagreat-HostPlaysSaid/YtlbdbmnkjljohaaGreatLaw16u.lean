/- Chapter 16: HostPlays. -/
import Derived.Test.YtlbdbmnkjljohaaGreatLaw16s
import Derived.Test.YtlbdbmnkjljohaaGreatReg16h
import Derived.Deep.DeepCutAuto
import Derived.Deep.CutBlock
set_option linter.unusedSimpArgs false
set_option linter.unusedVariables false
namespace Go.Proofs.YtlbdbmnkjljohaaGreat
open Go.RowKit Go.Esc
set_option maxRecDepth 100000 in
set_option maxHeartbeats 8000000 in
theorem hosts_main {w : World} (a0 : Option Addr) (len cap : Nat) (na : Bs) (a1 : Option Addr) (len1 cap1 : Nat) (L zs : List (Bs × Bs)) (M : List OpV) (hL : Prs w a0 len L) (hM : Ops w a1 len1 M) (hzs : zs = tidyU L) (hgood : goodUs zs) (h1 : len ≤ 10) (h2 : len1 ≤ 8) (hnal : na.length ≤ 9223372036854775807) :
    Calls Tryz.prog 9 #[.slice a0 len cap, S na, .slice a1 len1 cap1] w fun e w' => e = .returned (.bool true) ∧ Pu w w' := by
  have q0 : ¬ (10 : Int) < len := by omega
  have q1 : ¬ (8 : Int) < len1 := by omega
  have hi4 : (Tryz.prog.info? 44).map (·.size) = some 2 := by kernel_rfl
  have hi6 : (Tryz.prog.info? 34).map (·.size) = some 6 := by kernel_rfl
  have hll := hL.length
  have hsmall : ∀ x ∈ tidyU L, x.1.length ≤ 9223372036854775807 := by
    intro x hx
    obtain ⟨y, hy, rfl⟩ := List.mem_map.1 hx
    have := (hL.small y hy).1
    unfold maxLen at this
    exact this
  have hzl := tidyU_length L
  rw [← hzs] at hsmall hzl
  have hzn : len = zs.length := by omega
  have hF := fun w => fillW na 16 hnal (by decide) w
  have hnl := fillL_len na 16
  obtain ⟨nb, hnbe⟩ : ∃ x, x = fillL na 16 := ⟨_, rfl⟩
  rw [← hnbe] at hF hnl
  have HL := Lib.hid hL
  have HM := Lib.hid hM
  have HZS := Lib.hid hzs
  have HSM := Lib.hid hsmall
  have HZN := Lib.hid hzn
  have HGD := Lib.hid hgood
  have HF := Lib.hid hF
  have HNL := Lib.hid hnl
  have hml := hM.length
  have hmn := hM.none
  have HML := Lib.hid hml
  have HMN := Lib.hid hmn
  clear hL hM hzs hsmall hll hzl hgood hzn hF hnbe hml hmn hnal
  go_enter Tryz.func9, Tryz.ntmps9
  go_wp2_with (first
    | (go_at_call 12; refine (alive16 _).mono ?_; rintro e w1 ⟨rfl, hp1⟩)
    | (go_at_call 26; refine (tidy (HL.out.keep hp1) (by omega)).mono ?_; rw [← HZS.out]; rintro e w2 ⟨v, rfl, ho, hp2⟩; obtain ⟨a2, cv, rfl, -⟩ := ownN_slice ho; obtain ⟨g, hgL⟩ := own_gL ho)
    | (go_at_call 27; refine (refUsers zs HZN.out (by omega) (fun hz => ⟨g, (hgL (by have := HZN.out; cases zs with | nil => exact absurd rfl hz | cons z r => simp at this; omega)).1, (hgL (by have := HZN.out; cases zs with | nil => exact absurd rfl hz | cons z r => simp at this; omega)).2.1⟩) HSM.out).mono ?_; rintro e w3 ⟨bb, rfl, hbb, hp3⟩; obtain rfl : bb = true := hbb.2 ⟨HGD.out, by have := HZN.out; omega⟩
       clear hbb)
    | (go_at_call 16; refine (HF.out _).mono ?_; rintro e w4 ⟨rfl, hw4⟩; rw [hw4]; clear hw4)
    | (go_at_call 28; have hrow3 : zs ≠ [] → a2 = some ⟨g, 0, none⟩ ∧ Row w3 g 23 (flatU zs) := (fun hz => have h0 : 0 < len := (by have := HZN.out; cases zs with | nil => exact absurd rfl hz | cons z r => simp at this; omega); ⟨(hgL h0).1, (hgL h0).2.1.pu hp3⟩); refine (newUsers zs HZN.out (by omega) (fun hz => ⟨g, hrow3 hz⟩) HGD.out).mono ?_; rintro e w5 ⟨ub, rfl, hu5, hp5⟩)
    | (go_at_call 37; refine (booksW zs HZN.out (by omega) (fun hz => ⟨g, (hrow3 hz).1, (hrow3 hz).2.pu hp5⟩)).mono ?_; rintro e w6 ⟨bb, x, rfl, hk6, hxg, hbb, hgl6, hp6⟩))
  have hp03 : Pu w w3 := hp1.trans (Pu.trans hp2 hp3)
  have B6 : UB w w6 w5.heap.size (Nw w3.heap.size w5) ub bb x g zs (mkU zs) (mkU zs) := by
    have s5 := hp5.size
    have s3 := hp03.size
    refine ⟨hu5.pu hp6, hk6, fun hz => ((hrow3 hz).2.pu hp5).pu hp6, nsL_mk zs, mkU_len HGD.out, mkU_len HGD.out, fun b hb => ⟨by have := hb.1; omega, hb.2⟩, hxg, hbb, hgl6, fun hz => ⟨fun hG => ?_, ?_⟩, by omega, hp6.size, (hp03.trans hp5).trans hp6⟩
    · have := Row.lt (hrow3 hz).2; have := hG.1; omega
    · have := Row.lt (hrow3 hz).2; omega
  have HA2 := Lib.hid (fun hz => (hrow3 hz).1)
  clear hrow3 hgL ho hu5 hk6 hxg hbb hgl6 hp1 hp2 hp3 hp5 hp6 hp03
  obtain ⟨N, hN⟩ : ∃ N, N = w5.heap.size := ⟨_, rfl⟩
  obtain ⟨G, hG⟩ : ∃ G, G = Nw w3.heap.size w5 := ⟨_, rfl⟩
  rw [← hN, ← hG] at B6
  clear hN hG
  go_loopw [10, 11, 12, 13, 14, 15, 16, 17, 18, 19, 20, 21, 22, 23, 91, 103] (fun xn _ _ _ _ _ _ _ _ _ _ _ _ _ _ _ wr => ∃ (n : Nat) (l : List UserS), n ≤ 5 ∧ xn = .int .i64 (n : Int) ∧ UB w wr N G ub bb x g zs l l) (fun xn _ _ _ _ _ _ _ _ _ _ _ _ _ _ _ _ => 5 - (intOf xn).toNat)
  case atStart => exact ⟨0, _, by omega, rfl, B6⟩
  case round =>
    obtain ⟨n, l, hn5, rfl, B⟩ := hrel
    clear B6
    by_cases hlt : n < 5
    rotate_left
    · obtain rfl : n = 5 := by omega
      have T1 := Lib.hid True.intro
      have k5 : (ByteArray.mk #[115, 104, 111, 114, 116]) = bs [115, 104, 111, 114, 116] := rfl
      as_aux_lemma =>
        go_wp2_with (first
          | (go_at_call 30; refine (gotNil _).mono ?_; rintro e w7 ⟨rfl, rfl⟩)
          | (go_at_call 31; refine (doneNil _).mono ?_; rintro e w7 ⟨rfl, rfl⟩)
          | (go_at_call 32; refine (userNil _).mono ?_; rintro e w7 ⟨rfl, rfl⟩)
          | (go_at_call 33; refine (keysNil _).mono ?_; rintro e w8 ⟨rfl, hp8⟩; have B8 := B.pu hp8)
          | (go_at_call 29; clear T1; refine (newHostNo _ _).mono ?_; rintro e w9 ⟨rfl, rfl⟩)
          | (go_at_call 29; refine (newHostShort ub [115, 104, 111, 114, 116] rfl _).mono ?_; rintro e w9 ⟨rfl, rfl⟩))
        go_ret
        exact ⟨rfl, B8.since⟩
    have hlt' : (n : Int) < 5 := by omega
    have hNh := fun w => newHost ub nb HNL.out w
    have HNH := Lib.hid hNh
    clear hNh
    go_wp2_with (first
      | (go_at_call 29; refine (HNH.out _).mono ?_; rintro e w7 ⟨hb, rfl, hh7, hhl7, hp7⟩))
    have R7 : HR w (w7.alloc (.cells #[.pointer (some ⟨bb, 0, none⟩), S nb, .int .i64 0, .string ⟨#[]⟩, .string ⟨#[]⟩, .string ⟨#[]⟩, .string ⟨#[]⟩] 75)) N G ub bb x g zs hb w7.heap.size nb l l hst0 hst0 := HR.start B hh7 hhl7 hp7 (Row.newAt _ _ _ _ rfl rfl) (Nat.le_refl _) ((Pu.refl _).alloc _)
    clear hh7 hhl7 hp7
    obtain ⟨rb, hrbe⟩ : ∃ z, z = w7.heap.size := ⟨_, rfl⟩
    rw [← hrbe] at R7 ⊢
    clear hrbe
    go_loopw [13, 14, 15, 16, 17, 18, 19, 20, 21, 22, 91, 103] (fun xi _ _ _ _ _ _ _ _ _ _ _ wq => ∃ (k : Nat) (l : List UserS) (s : HSt), k ≤ len1 ∧ xi = .int .i64 (k : Int) ∧ SInv s ∧ HR w wq N G ub bb x g zs hb rb nb l l s s) (fun xi _ _ _ _ _ _ _ _ _ _ _ _ => len1 - (intOf xi).toNat)
    case atStart => exact ⟨0, _, _, by omega, rfl, SInv.zero, R7⟩
    case round =>
      obtain ⟨k, l, s, hk, rfl, hsi, R⟩ := hrel
      clear R7 B
      by_cases hlt1 : k < len1
      rotate_left
      · obtain rfl : k = len1 := by omega
        have hnlt : decide ((k : Int) < k) = false := by simp
        have B9 := R.base
        clear R hsi HNH
        as_aux_lemma =>
          go_wp2_with fail
          go_loopw [23] (fun xj wz => ∃ j : Nat, j ≤ len ∧ xj = .int .i64 (j : Int) ∧ UB w wz N G ub bb x g zs l l) (fun xj _ => len - (intOf xj).toNat)
          case atStart => exact ⟨0, by omega, rfl, B9⟩
          case round =>
            obtain ⟨j, hj, rfl, BJ⟩ := hrel
            clear B9
            by_cases hlt2 : j < len
            rotate_left
            · obtain rfl : j = len := by omega
              have hnl2 : decide ((j : Int) < j) = false := by simp
              go_wp2_with fail
              go_roundw
              case rel => exact ⟨n + 1, l, by omega, by go_num, BJ⟩
              case measure => simp [intOf]; omega
            have hjz : j < zs.length := by have := HZN.out; omega
            have hz0 : zs ≠ [] := by intro e; rw [e] at hjz; simp at hjz
            obtain rfl := HA2.out hz0
            have hjn : j < (nsL l).length := by rw [BJ.ns]; exact hjz
            have hjl : j < l.length := by rw [nsL_length] at hjn; exact hjn
            have k0 : (0 : Int) ≤ j := by omega
            have k1 : (j : Int) < len := by omega
            have hll : len = l.length := by have := HZN.out; have := congrArg List.length BJ.ns; rw [nsL_length] at this; omega
            have hnmz : (zs[j]'hjz).1 = (l[j]).name := by
              have : (nsL l)[j]? = zs[j]? := by rw [BJ.ns]
              rw [List.getElem?_eq_getElem hjn, List.getElem?_eq_getElem hjz] at this
              have := Option.some.inj this
              rw [← this]; simp [nsL]
            have hfv : failsV l (l[j]).name = (l[j]).fails := by
              have hp : posN l (l[j]).name = some j := by
                refine posN_first hjl rfl fun q hq hqj => ?_
                have hqz : q < zs.length := by omega
                have h9 := HGD.out.2 q j hqz hjz hqj
                rw [hnmz] at h9
                have : (nsL l)[q]? = zs[q]? := by rw [BJ.ns]
                rw [List.getElem?_eq_getElem (by rw [nsL_length]; exact hq), List.getElem?_eq_getElem hqz] at this
                have := Option.some.inj this
                rw [← this] at h9
                simpa [nsL] using h9
              unfold failsV; rw [hp]; simp [List.getElem?_eq_getElem hjl]
            have hnl9 : ((l[j]).name).length ≤ 1000000 := by
              have h9 := HGD.out.1 _ (List.getElem_mem hjz)
              unfold userB at h9
              simp at h9
              have := nameB_len h9.1
              rw [hnmz] at this
              omega
            have c1 := fun w' (hp : Pu wr w') => ((BJ.pu hp).row hz0).cell' (j * 2) (by rw [flatU_length]; omega)
            rw [flatU_get zs j hjz, hnmz] at c1
            have c2 := fun w' (hp : Pu wr w') => (BJ.pu hp).k.cells.2.1
            rw [← hll] at c2
            have c3 := fun w' (hp : Pu wr w') => (BJ.pu hp).k.f.cell' j (by rw [failC_length]; exact hjl)
            rw [failC_get hjl] at c3
            have hFl := fun w' (hp : Pu wr w') => failsW (BJ.pu hp).u (l[j]).name hnl9
            rw [hfv] at hFl
            have BJ2 := BJ
            clear BJ hfv hnmz hnl9 hjn hll
            go_wp2_with fail
            refine regH42 k0 k1 c1 hFl c2 c3 ?hend
            case hend =>
              intro p0 p1 p2 p3 p4 p5 p6 p7 p8 p9 p10 p11 p12 p13 w9 hp9
              (try simp only [Exit.inBlock, Exit.then])
              go_wp2_with fail
              go_roundw
              case rel => exact ⟨j + 1, by omega, by go_num, BJ2.pu hp9⟩
              case measure => simp [intOf]; omega
      rcases a1 with _ | xa
      · have := HMN.out rfl; omega
      have hkL : k < M.length := by have := HML.out; omega
      have hok := HM.out.ok _ (List.getElem_mem hkL)
      have hld := fun w' (hp : Pu w w') => (HM.out.keep hp).load (P := Tryz.prog) k hkL 34 Tryz.underlying34 rfl hi6
      obtain ⟨o, ho⟩ : ∃ o, o = M[k] := ⟨_, rfl⟩
      rw [← ho] at hok
      simp only [← ho] at hld
      obtain ⟨kd, nw, ps, vl, on, bd⟩ := o
      obtain ⟨-, hnw, -, hvl, hol, hbl⟩ := hok
      simp only at hvl hol hbl hnw
      have hld' : ∀ w', Pu w w' → (loadVar 34 (xa.add (k * 6))).run Tryz.prog w' = .ok (.agg #[.int .i64 kd, .int .i64 nw, .int .i64 ps, .int .u8 vl, S on, S bd]) w' := hld
      have HLD := Lib.hid hld'
      have HR0 := Lib.hid R
      have HSI := Lib.hid hsi
      obtain ⟨n1, n2⟩ := bnd64H hnw
      obtain ⟨y, rfl⟩ : ∃ c : UInt8, vl = (c.toNat : Int) := by
        have : 0 ≤ vl ∧ vl ≤ 255 := by
          simp [Lit.wf, IntKind.min, IntKind.max, IntKind.signed, IntKind.bits] at hvl
          omega
        exact ⟨UInt8.ofNat vl.toNat, by simp; omega⟩
      unfold maxLen at hol hbl
      have hlti : (k : Int) < len1 := by omega
      have hk0 : (0 : Int) ≤ k := by omega
      have hnle := hol
      clear hld hld' ho hvl hnw R hkL hsi HNH
      by_cases hbig : 300 < bd.length
      · have q9 : (300 : Int) < bd.length := by omega
        as_aux_lemma =>
          go_wp2_with (first
          | (refine wpList_load_at rfl 34 (.tmp 75) rfl (xa.add (k * 6)) _ (by first | rfl | simp [Act.eval]) (HLD.out _ HR0.out.base.since) ?_)
          | (refine wpList_store_part rfl 34 (.tmp 14) (.tmp 76) rfl wr.heap.size 0 [.int .i64 kd, .int .i64 nw, .int .i64 ps, .int .u8 (y.toNat : Int), S on, S bd] (by rfl) (by rfl) (Row.newAt wr wr.heap.size _ _ rfl rfl) hi6 (by simp) (by simp [Value.oneCell']) ?_; intro w5 hr5 hch5
             have hp5 : Pu wr w5 := hch5.below ((Pu.refl wr).alloc _) (Nat.le_refl _)
             rw [splice_all (by rfl)] at hr5
             obtain ⟨d0, d1, d2, d3, d4, d5⟩ := row_cells6 hr5
             clear hch5))
          go_ret
          exact ⟨rfl, (HR0.out.pu hp5).base.since⟩
      have q9 : ¬ (300 : Int) < bd.length := by omega
      by_cases hbig2 : 40 < on.length
      · have q10 : (40 : Int) < on.length := by omega
        as_aux_lemma =>
          go_wp2_with (first
          | (refine wpList_load_at rfl 34 (.tmp 75) rfl (xa.add (k * 6)) _ (by first | rfl | simp [Act.eval]) (HLD.out _ HR0.out.base.since) ?_)
          | (refine wpList_store_part rfl 34 (.tmp 14) (.tmp 76) rfl wr.heap.size 0 [.int .i64 kd, .int .i64 nw, .int .i64 ps, .int .u8 (y.toNat : Int), S on, S bd] (by rfl) (by rfl) (Row.newAt wr wr.heap.size _ _ rfl rfl) hi6 (by simp) (by simp [Value.oneCell']) ?_; intro w5 hr5 hch5
             have hp5 : Pu wr w5 := hch5.below ((Pu.refl wr).alloc _) (Nat.le_refl _)
             rw [splice_all (by rfl)] at hr5
             obtain ⟨d0, d1, d2, d3, d4, d5⟩ := row_cells6 hr5
             clear hch5))
          go_ret
          exact ⟨rfl, (HR0.out.pu hp5).base.since⟩
      have q10 : ¬ (40 : Int) < on.length := by omega
      go_upto_block 4 with (first
          | (refine wpList_load_at rfl 34 (.tmp 75) rfl (xa.add (k * 6)) _ (by first | rfl | simp [Act.eval]) (HLD.out _ HR0.out.base.since) ?_)
          | (refine wpList_store_part rfl 34 (.tmp 14) (.tmp 76) rfl wr.heap.size 0 [.int .i64 kd, .int .i64 nw, .int .i64 ps, .int .u8 (y.toNat : Int), S on, S bd] (by rfl) (by rfl) (Row.newAt wr wr.heap.size _ _ rfl rfl) hi6 (by simp) (by simp [Value.oneCell']) ?_; intro w5 hr5 hch5
             have hp5 : Pu wr w5 := hch5.below ((Pu.refl wr).alloc _) (Nat.le_refl _)
             rw [splice_all (by rfl)] at hr5
             obtain ⟨d0, d1, d2, d3, d4, d5⟩ := row_cells6 hr5
             clear hch5))
      have R5 := HR0.out.pu hp5
      go_cut [15, 16, 17, 18, 91, 103] (fun xt _ _ _ _ _ wx => ∃ t : Bs, xt = S t ∧ t.length ≤ 600 ∧ Pu w5 wx)
      case first =>
        by_cases hk1 : kd = 1
        · subst hk1
          have hfb := fillL_len bd 16
          have hF := fun w => fillW bd 16 (by omega) (by decide) w
          obtain ⟨fb, hfbe⟩ : ∃ x, x = fillL bd 16 := ⟨_, rfl⟩
          rw [← hfbe] at hfb hF
          have hP := fun w => putHello on fb (by omega) (by omega) w
          have htl := helloR_len on fb (by omega) hfb
          obtain ⟨t, hte⟩ : ∃ z, z = optV (helloR on fb) := ⟨_, rfl⟩
          rw [← hte] at htl
          have hP' : ∀ w, Calls Tryz.prog 38 #[.agg #[S on, S fb]] w fun e w' => e = .returned (.tuple #[S t, .bool (helloR on fb).isSome]) ∧ Pu w w' := fun w => by rw [hte]; exact hP w
          obtain ⟨okk, hokk⟩ : ∃ z, z = (helloR on fb).isSome := ⟨_, rfl⟩
          rw [← hokk] at hP'
          have HF1 := Lib.hid hF
          have HP1 := Lib.hid hP'
          clear hF hP hP' hte hokk hfbe
          as_aux_lemma =>
            go_wp2_with fail
            refine regH24 (fun w' hp => (row_cells6 (hr5.pu hp)).2.2.2.2.1) (fun w' hp => (row_cells6 (hr5.pu hp)).2.2.2.2.2) HF1.out HP1.out ?hend
            case hend =>
              intro o1 o2 o3 o4 o5 o6 o7 o8 o9 o10 w7 hp7
              (try simp only [Exit.inBlock, Exit.then])
              go_wp2_with fail
              go_meet
              exact ⟨t, rfl, htl, hp7⟩
        have hk1' : (kd == 1) = false := by simpa using hk1
        by_cases hk2 : kd = 2
        · subst hk2
          · skip
            have hav := atB (R5.base.k) s.user
            obtain ⟨r0, r1, r2, r3, r4⟩ := R5.r.cells
            have HF0 := Lib.hid (fun w => fillW [] 32 (by decide) (by decide) w)
            have hz32 := fillL_len [] 32
            cases hpo : posN l s.user with
            | none =>
              rw [show atV l s.user = -1 by unfold atV; rw [hpo]] at hav
              have HAV := Lib.hid hav
              have hPr := fun w => refProof (fillL [] 32) s.papers (by omega) (by have := HSI.out.pl; omega) w
              have hpl := proofL_length (fillL [] 32) s.papers
              obtain ⟨fi, hfi⟩ : ∃ z, z = proofL (fillL [] 32) s.papers := ⟨_, rfl⟩
              rw [← hfi] at hPr hpl
              obtain ⟨z32, hz⟩ : ∃ z, z = fillL [] 32 := ⟨_, rfl⟩
              rw [← hz] at hPr HF0 hz32
              have HPR := Lib.hid hPr
              clear hav hPr hfi hz hpo
              have zz1 : ¬ (9223372036854775807 < 1 + fi.length) := by omega
              have k3 : (ByteArray.mk #[3]) = bs [3] := rfl
              as_aux_lemma =>
                go_wp2_with (first
                  | (go_at_call 16; refine (HF0.out _).mono ?_; rintro e w6 ⟨rfl, hw6⟩; rw [hw6]; clear hw6)
                  | (go_at_call 39; refine HAV.out.mono ?_; rintro e w6 ⟨rfl, hw6⟩; rw [hw6]; clear hw6)
                  | (go_at_call 19; refine (HPR.out _).mono ?_; rintro e w6 ⟨rfl, hp6⟩)
                  | (refine wpList_bytes _ rfl (.tmp 128) 9 42 5 rfl fi (by first | rfl | simp [Act.eval]) Tryz.underlying9 Tryz.underlying42 Tryz.underlying5 ?_; intro w7 cp hrow hpu hcap
                     have hcv := Row.conv (P := Tryz.prog) (cap := cp) (n := 32) 42 9 hrow hpl.symm Tryz.underlying42 Tryz.underlying5 Tryz.underlying9
                     obtain ⟨d0, d1, d2, d3, d4, d5⟩ := row_cells6 ((hr5.pu hp6).pu hpu)))
                go_meet
                exact ⟨3 :: fi, rfl, by simp; omega, hp6.trans hpu⟩
            | some i =>
              obtain ⟨hi, -⟩ := posN_some hpo
              rw [show atV l s.user = (i : Int) by unfold atV; rw [hpo]] at hav
              have HAV := Lib.hid hav
              have hsl := R5.base.lenb _ (List.getElem_mem hi)
              have hzi : i < (nsL l).length := by rw [nsL_length]; exact hi
              obtain ⟨b0, b1, b2, b3⟩ := R5.base.k.cells
              obtain ⟨haL, hrL⟩ := R5.base.k.usr (by intro e; rw [e] at hi; simp at hi)
              rw [haL] at b0
              have hcs := hrL.cell' (i * 2 + 1) (by rw [flatU_length]; omega)
              rw [flatU_sec (nsL l) i hzi, show ((nsL l)[i]'hzi).2 = (l[i]).secret by simp [nsL]] at hcs
              have hlen := R5.base.k.len
              obtain ⟨sec, hsec⟩ : ∃ z, z = (l[i]).secret := ⟨_, rfl⟩
              rw [← hsec] at hsl hcs
              have hPr := fun w => refProof sec s.papers (by omega) (by have := HSI.out.pl; omega) w
              have hpl := proofL_length sec s.papers
              obtain ⟨fi, hfi⟩ : ∃ z, z = proofL sec s.papers := ⟨_, rfl⟩
              rw [← hfi] at hPr hpl
              obtain ⟨z32, hz⟩ : ∃ z, z = fillL [] 32 := ⟨_, rfl⟩
              rw [← hz] at HF0 hz32
              have HPR := Lib.hid hPr
              have k0 : (0 : Int) ≤ i := by omega
              have k1 : (i : Int) < l.length := by omega
              clear hav hPr hfi hz hpo hsec haL hrL
              have zz1 : ¬ (9223372036854775807 < 1 + fi.length) := by omega
              have k3 : (ByteArray.mk #[3]) = bs [3] := rfl
              as_aux_lemma =>
                go_wp2_with (first
                  | (go_at_call 16; refine (HF0.out _).mono ?_; rintro e w6 ⟨rfl, hw6⟩; rw [hw6]; clear hw6)
                  | (go_at_call 39; refine HAV.out.mono ?_; rintro e w6 ⟨rfl, hw6⟩; rw [hw6]; clear hw6)
                  | (go_at_call 19; refine (HPR.out _).mono ?_; rintro e w6 ⟨rfl, hp6⟩)
                  | (refine wpList_bytes _ rfl (.tmp 128) 9 42 5 rfl fi (by first | rfl | simp [Act.eval]) Tryz.underlying9 Tryz.underlying42 Tryz.underlying5 ?_; intro w7 cp hrow hpu hcap
                     have hcv := Row.conv (P := Tryz.prog) (cap := cp) (n := 32) 42 9 hrow hpl.symm Tryz.underlying42 Tryz.underlying5 Tryz.underlying9
                     obtain ⟨d0, d1, d2, d3, d4, d5⟩ := row_cells6 ((hr5.pu hp6).pu hpu)))
                go_meet
                exact ⟨3 :: fi, rfl, by simp; omega, hp6.trans hpu⟩
        have hk2' : (kd == 2) = false := by simpa using hk2
        by_cases hk3 : kd = 3
        · subst hk3
          · skip
            have hav := atB (R5.base.k) s.user
            obtain ⟨r0, r1, r2, r3, r4⟩ := R5.r.cells
            have HF0 := Lib.hid (fun w => fillW [] 32 (by decide) (by decide) w)
            have hz32 := fillL_len [] 32
            cases hpo : posN l s.user with
            | none =>
              rw [show atV l s.user = -1 by unfold atV; rw [hpo]] at hav
              have HAV := Lib.hid hav
              have hPr := fun w => refProof (fillL [] 32) s.papers (by omega) (by have := HSI.out.pl; omega) w
              have hpl := proofL_length (fillL [] 32) s.papers
              obtain ⟨fi, hfi⟩ : ∃ z, z = proofL (fillL [] 32) s.papers := ⟨_, rfl⟩
              rw [← hfi] at hPr hpl
              obtain ⟨z32, hz⟩ : ∃ z, z = fillL [] 32 := ⟨_, rfl⟩
              rw [← hz] at hPr HF0 hz32
              have HPR := Lib.hid hPr
              clear hav hPr hfi hz hpo
              obtain ⟨ii, rr, f1, -, -, f2, f3, hii⟩ := index_of32h ps
              have hil : ii < fi.length := by omega
              obtain ⟨xx, hxx⟩ : ∃ x, fi[ii]'hil = x := ⟨_, rfl⟩
              obtain ⟨v, hv⟩ : ∃ v, v = xx ^^^ y := ⟨_, rfl⟩
              have hxv : Go.bits .xor .u8 (xx.toNat : Int) (y.toNat : Int) = (v.toNat : Int) := by rw [xor_val, hv]
              obtain ⟨m2, hm2⟩ : ∃ m2, m2 = fi.set ii v := ⟨_, rfl⟩
              have hm2l : m2.length = 32 := by rw [hm2, List.length_set]; exact hpl
              have zz1 : ¬ (9223372036854775807 < 1 + m2.length) := by omega
              have k3 : (ByteArray.mk #[3]) = bs [3] := rfl
              have HXX := Lib.hid hxx
              have HSET := Lib.hid hm2.symm
              have HM2 := Lib.hid hm2l
              have HXV := Lib.hid hxv
              have HFL := Lib.hid hpl
              have F1 := Lib.hid f1
              have F2 := Lib.hid f2
              have F3 := Lib.hid f3
              clear hxx hv hm2 hm2l hxv f1 f2 f3
              as_aux_lemma =>
                go_wp2_with (first
                  | (go_at_call 16; refine (HF0.out _).mono ?_; rintro e w6 ⟨rfl, hw6⟩; rw [hw6]; clear hw6)
                  | (go_at_call 39; refine HAV.out.mono ?_; rintro e w6 ⟨rfl, hw6⟩; rw [hw6]; clear hw6)
                  | (go_at_call 19; refine (HPR.out _).mono ?_; rintro e w6 ⟨rfl, hp6⟩)
                  | (refine wpList_bytes _ rfl (.tmp 128) 9 42 5 rfl fi (by first | rfl | simp [Act.eval]) Tryz.underlying9 Tryz.underlying42 Tryz.underlying5 ?_; intro w7 cp hrow hpu hcap
                     have hr7 := (hr5.pu hp6).pu hpu
                     rw [HFL.out]
                     obtain ⟨d0, d1, d2, d3, d4, d5⟩ := row_cells6 hr7))
                refine regH33 (fun w' hp => (row_cells6 (hr7.pu hp)).2.2.1) (fun w' hp => (row_cells6 (hr7.pu hp)).2.2.2.1) hrow HFL.out hil HXX.out HXV.out F1.out F2.out F3.out (by omega) (by omega) ?hend
                case hend =>
                  intro o1 o2 o3 o4 o5 o6 o7 o8 o9 o10 o11 o12 w8 hp8
                  (try simp only [Exit.inBlock, Exit.then])
                  have hrw := (hrow.pu hp8).set ii (.int .u8 (v.toNat : Int))
                  rw [cells_set, HSET.out] at hrw
                  have hcv := Row.conv (P := Tryz.prog) (cap := cp) (n := 32) 42 9 hrw HM2.out.symm Tryz.underlying42 Tryz.underlying5 Tryz.underlying9
                  have hp9 := (Pu.trans hpu hp8).setCell (p := ⟨w6.heap.size, ii, none⟩) (Nat.le_refl _) (.int .u8 (v.toNat : Int))
                  go_wp2_with fail
                  go_meet
                  exact ⟨3 :: m2, rfl, by have := HM2.out; simp; omega, hp6.trans hp9⟩
            | some i =>
              obtain ⟨hi, -⟩ := posN_some hpo
              rw [show atV l s.user = (i : Int) by unfold atV; rw [hpo]] at hav
              have HAV := Lib.hid hav
              have hsl := R5.base.lenb _ (List.getElem_mem hi)
              have hzi : i < (nsL l).length := by rw [nsL_length]; exact hi
              obtain ⟨b0, b1, b2, b3⟩ := R5.base.k.cells
              obtain ⟨haL, hrL⟩ := R5.base.k.usr (by intro e; rw [e] at hi; simp at hi)
              rw [haL] at b0
              have hcs := hrL.cell' (i * 2 + 1) (by rw [flatU_length]; omega)
              rw [flatU_sec (nsL l) i hzi, show ((nsL l)[i]'hzi).2 = (l[i]).secret by simp [nsL]] at hcs
              have hlen := R5.base.k.len
              obtain ⟨sec, hsec⟩ : ∃ z, z = (l[i]).secret := ⟨_, rfl⟩
              rw [← hsec] at hsl hcs
              have hPr := fun w => refProof sec s.papers (by omega) (by have := HSI.out.pl; omega) w
              have hpl := proofL_length sec s.papers
              obtain ⟨fi, hfi⟩ : ∃ z, z = proofL sec s.papers := ⟨_, rfl⟩
              rw [← hfi] at hPr hpl
              obtain ⟨z32, hz⟩ : ∃ z, z = fillL [] 32 := ⟨_, rfl⟩
              rw [← hz] at HF0 hz32
              have HPR := Lib.hid hPr
              have k0 : (0 : Int) ≤ i := by omega
              have k1 : (i : Int) < l.length := by omega
              clear hav hPr hfi hz hpo hsec haL hrL
              obtain ⟨ii, rr, f1, -, -, f2, f3, hii⟩ := index_of32h ps
              have hil : ii < fi.length := by omega
              obtain ⟨xx, hxx⟩ : ∃ x, fi[ii]'hil = x := ⟨_, rfl⟩
              obtain ⟨v, hv⟩ : ∃ v, v = xx ^^^ y := ⟨_, rfl⟩
              have hxv : Go.bits .xor .u8 (xx.toNat : Int) (y.toNat : Int) = (v.toNat : Int) := by rw [xor_val, hv]
              obtain ⟨m2, hm2⟩ : ∃ m2, m2 = fi.set ii v := ⟨_, rfl⟩
              have hm2l : m2.length = 32 := by rw [hm2, List.length_set]; exact hpl
              have zz1 : ¬ (9223372036854775807 < 1 + m2.length) := by omega
              have k3 : (ByteArray.mk #[3]) = bs [3] := rfl
              have HXX := Lib.hid hxx
              have HSET := Lib.hid hm2.symm
              have HM2 := Lib.hid hm2l
              have HXV := Lib.hid hxv
              have HFL := Lib.hid hpl
              have F1 := Lib.hid f1
              have F2 := Lib.hid f2
              have F3 := Lib.hid f3
              clear hxx hv hm2 hm2l hxv f1 f2 f3
              as_aux_lemma =>
                go_wp2_with (first
                  | (go_at_call 16; refine (HF0.out _).mono ?_; rintro e w6 ⟨rfl, hw6⟩; rw [hw6]; clear hw6)
                  | (go_at_call 39; refine HAV.out.mono ?_; rintro e w6 ⟨rfl, hw6⟩; rw [hw6]; clear hw6)
                  | (go_at_call 19; refine (HPR.out _).mono ?_; rintro e w6 ⟨rfl, hp6⟩)
                  | (refine wpList_bytes _ rfl (.tmp 128) 9 42 5 rfl fi (by first | rfl | simp [Act.eval]) Tryz.underlying9 Tryz.underlying42 Tryz.underlying5 ?_; intro w7 cp hrow hpu hcap
                     have hr7 := (hr5.pu hp6).pu hpu
                     rw [HFL.out]
                     obtain ⟨d0, d1, d2, d3, d4, d5⟩ := row_cells6 hr7))
                refine regH33 (fun w' hp => (row_cells6 (hr7.pu hp)).2.2.1) (fun w' hp => (row_cells6 (hr7.pu hp)).2.2.2.1) hrow HFL.out hil HXX.out HXV.out F1.out F2.out F3.out (by omega) (by omega) ?hend
                case hend =>
                  intro o1 o2 o3 o4 o5 o6 o7 o8 o9 o10 o11 o12 w8 hp8
                  (try simp only [Exit.inBlock, Exit.then])
                  have hrw := (hrow.pu hp8).set ii (.int .u8 (v.toNat : Int))
                  rw [cells_set, HSET.out] at hrw
                  have hcv := Row.conv (P := Tryz.prog) (cap := cp) (n := 32) 42 9 hrw HM2.out.symm Tryz.underlying42 Tryz.underlying5 Tryz.underlying9
                  have hp9 := (Pu.trans hpu hp8).setCell (p := ⟨w6.heap.size, ii, none⟩) (Nat.le_refl _) (.int .u8 (v.toNat : Int))
                  go_wp2_with fail
                  go_meet
                  exact ⟨3 :: m2, rfl, by have := HM2.out; simp; omega, hp6.trans hp9⟩
        have hk3' : (kd == 3) = false := by simpa using hk3
        as_aux_lemma =>
          go_wp2_with fail
          go_meet
          exact ⟨bd, rfl, by omega, Pu.refl _⟩
      case rest =>
        obtain ⟨t, rfl, htl, hpc⟩ := hcut
        have R6 := R5.pu hpc
        have hr6 := hr5.pu hpc
        obtain ⟨d0, e1, d2, d3, d4, d5⟩ := row_cells6 hr6
        have hG1 := R6.got HSI.out HNL.out t htl nw n1 n2
        have hG2 := fun (lu : List UserS) (sh : HSt) (w' : World) (h : HR w w' N G ub bb x g zs hb rb nb lu l sh s) => h.rgot HSI.out HNL.out t htl nw n1 n2
        have hsi2 := gotR_inv (nb := nb) (l := l) (now := nw) HSI.out htl HNL.out
        obtain ⟨GR, hGR⟩ : ∃ z, z = gotR nb l s t nw := ⟨_, rfl⟩
        rw [← hGR] at hG1 hsi2
        simp only [← hGR] at hG2
        clear hGR
        obtain ⟨oo, er, s2, l2⟩ := GR
        simp only at hG1 hsi2 hG2
        have HG1 := Lib.hid hG1
        have HG2 := Lib.hid hG2
        have HSI2 := Lib.hid hsi2
        have hob : N ≤ wr.heap.size := HR0.out.base.nn
        have HOB := Lib.hid (fun b (h : G b) => (HR0.out.base.gl b h).2)
        have HRH := Lib.hid (fun (hb' : wr.heap.size = hb) => rowNe (ys := hostC ub nb s) hr6 R6.h (by decide) hb')
        clear hG1 hG2 hsi2 R5 hr5 R6 d0 d1 d2 d3 d4 d5
        as_aux_lemma =>
          go_wp2_with (first
            | (go_at_call 30; refine HG1.out.mono ?_; rintro e w9 ⟨rfl, R9, hc9⟩
               have hr9 := hc9.row hr6 (fun h => by
                 rcases h with h | h
                 · have := HOB.out _ h; omega
                 · exact HRH.out h)
               obtain ⟨d0, d1, d2, d3, d4, d5⟩ := row_cells6 hr9)
            | (go_at_call 40; refine (HG2.out _ _ _ R9).mono ?_; rintro e w10 ⟨rfl, R10⟩))
          clear d0 d1 d2 d3 d4 d5 e1 R9 hc9 hr9 hr6
          have hU := fun w' (hp : Pu w10 w') => userW (R10.pu hp).h
          have hKy := fun w' (hp : Pu w10 w') => hostKeys (R10.pu hp).h
          have hD := fun w' (hp : Pu w10 w') => doneW (R10.pu hp).h
          have h2c := fun w' (hp : Pu w10 w') => (R10.pu hp).r.cells.2.2.1
          have h3c := fun w' (hp : Pu w10 w') => (R10.pu hp).r.cells.2.2.2.1
          have hLd := fun w' (hp : Pu w10 w') => Row.load (P := Tryz.prog) (xs := refC bb nb (stepOf s2) s2) (R10.pu hp).r 44 5 2 Tryz.underlying44 rfl hi4 (by simp [refC])
          have hLd' : ∀ w', Pu w10 w' → (loadVar 44 ⟨rb, 5, none⟩).run Tryz.prog w' = .ok (.agg #[S s2.up, S s2.down]) w' := hLd
          cases hdn : s2.done with
          | true =>
            have hst : stepOf s2 = 2 := by unfold stepOf; rw [hdn]; rfl
            rw [hst] at h2c
            simp only [hdn] at hD
            refine regH37a hD hU hKy h2c h3c hLd' ?hend
            case hend =>
              intro p0 p1 p2 p3 p4 p5 p6 p7 p8 p9 p10 p11 p12 p13 p14 p15 p16 p17 p18 p19 p20 p21 p22 p23 p24 p25 p26 p27 p28 p29 p30 p31 p32 p33 p34 w11 hp11
              (try simp only [Exit.inBlock, Exit.then])
              go_wp2_with fail
              go_roundw
              case rel => first | exact ⟨k + 1, l2, s2, by omega, by go_num, HSI2.out, R10.pu hp11⟩ | ((repeat apply Exists.intro); exact ⟨⟨k + 1, l2, s2, by omega, by go_num, HSI2.out, R10.pu hp11⟩, rfl⟩)
              case measure => simp [intOf]; omega
          | false =>
            have hst : ¬ stepOf s2 = 2 := by
              unfold stepOf; rw [hdn]
              cases hbd : s2.bad with
              | true => simp
              | false => have := HSI2.out.ok hbd hdn; simp; omega
            obtain ⟨kst, hkst⟩ : ∃ z, z = stepOf s2 := ⟨_, rfl⟩
            simp only [← hkst] at h2c
            rw [← hkst] at hst
            have q1 : ((kst : Int) == 2) = false := by simp; omega
            have q2 : ¬ (kst : Int) = 2 := by omega
            simp only [hdn] at hD
            refine regH37b q1 q2 hD hU hKy h2c h3c hLd' ?hend
            case hend =>
              intro p0 p1 p2 p3 p4 p5 p6 p7 p8 p9 p10 p11 p12 p13 p14 p15 p16 p17 p18 p19 p20 p21 p22 p23 p24 p25 p26 p27 p28 p29 p30 p31 p32 p33 p34 w11 hp11
              (try simp only [Exit.inBlock, Exit.then])
              go_wp2_with fail
              go_roundw
              case rel => first | exact ⟨k + 1, l2, s2, by omega, by go_num, HSI2.out, R10.pu hp11⟩ | ((repeat apply Exists.intro); exact ⟨⟨k + 1, l2, s2, by omega, by go_num, HSI2.out, R10.pu hp11⟩, rfl⟩)
              case measure => simp [intOf]; omega
theorem hostPlays_walk {w : World} (a0 : Option Addr) (len cap : Nat) (hz : IsPrs w a0 len cap) (s1 : ByteArray) (z1 : s1.size ≤ maxLen) (a1 : Option Addr) (len1 cap1 : Nat) (hz1 : IsOps w a1 len1 cap1) :
    Calls Tryz.prog 9 #[.slice a0 len cap, .string s1, .slice a1 len1 cap1] w fun e w' => e = .returned (.bool true) ∧ Pu w w' := by
  obtain ⟨na, rfl⟩ : ∃ a, s1 = bs a := ⟨_, bs_eta s1⟩
  rw [bs_size] at z1
  unfold maxLen at z1
  obtain ⟨L, hL, hlm⟩ := hz.prs
  obtain ⟨M, hM, hmm⟩ := hz1.ops
  by_cases h : len ≤ 10 ∧ len1 ≤ 8
  rotate_left
  · exact hosts_few a0 len cap na a1 len1 cap1 h
  obtain ⟨h1, h2⟩ := h
  by_cases hg : goodUs (tidyU L)
  · exact hosts_main a0 len cap na a1 len1 cap1 L _ M hL hM rfl hg h1 h2 (by omega)
  · exact hosts_bad a0 len cap na a1 len1 cap1 L _ hL rfl hg h1 h2
end Go.Proofs.YtlbdbmnkjljohaaGreat
