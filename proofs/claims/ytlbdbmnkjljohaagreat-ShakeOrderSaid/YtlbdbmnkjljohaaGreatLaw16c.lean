/- Chapter 16: ShakeOrder. -/
import Derived.Test.YtlbdbmnkjljohaaGreatT17
import Derived.Test.YtlbdbmnkjljohaaGreatRefHello2
import Derived.Test.YtlbdbmnkjljohaaGreatFill
set_option linter.unusedSimpArgs false
set_option linter.unusedVariables false
namespace Go.Proofs.YtlbdbmnkjljohaaGreat
open Go.RowKit Go.Esc
theorem prov_shape (l : List UserS) (s : HSt) (b : Bs) (now : Int) (hd : s.done = false) : (provR l s b now).st.done = decide ((provR l s b now).err = 0) ∧ (provR l s b now).st.user = s.user ∧ (provR l s b now).st.papers = s.papers ∧ (provR l s b now).st.got = s.got ∧ ((∀ u ∈ l, u.secret.length = 32) → ∀ u ∈ (provR l s b now).l, u.secret.length = 32) := by
  unfold provR
  split
  · exact ⟨by simp [hd], rfl, rfl, rfl, id⟩
  · split
    · exact ⟨by simp [hd], rfl, rfl, rfl, id⟩
    · split
      · exact ⟨by simp [hd], rfl, rfl, rfl, id⟩
      · split
        · exact ⟨by simp, rfl, rfl, rfl, modN_len (fun _ => rfl)⟩
        · exact ⟨by simp [hd], rfl, rfl, rfl, modN_len (fun u => by unfold failS; split <;> rfl)⟩
theorem got_second (nh : Bs) (l : List UserS) (u p b : Bs) (now : Int) (hl : ∀ x ∈ l, x.secret.length = 32) : ∃ (o : Bs) (E : Nat) (t : HSt) (l2 : List UserS), gotR nh l (hst1 u p) b now = ⟨o, E, t, l2⟩ ∧ t.done = decide (E = 0) ∧ (t.bad = true ∨ t.done = true) ∧ t.user = u ∧ t.papers = p ∧ t.got = 2 ∧ ∀ x ∈ l2, x.secret.length = 32 := by
  obtain ⟨h1, h2, h3, h4, h5⟩ := prov_shape l { hst1 u p with got := (hst1 u p).got + 1 } b now rfl
  have e : gotR nh l (hst1 u p) b now = ⟨(provR l { hst1 u p with got := (hst1 u p).got + 1 } b now).out, (provR l { hst1 u p with got := (hst1 u p).got + 1 } b now).err, { (provR l { hst1 u p with got := (hst1 u p).got + 1 } b now).st with bad := !decide ((provR l { hst1 u p with got := (hst1 u p).got + 1 } b now).err = 0) }, (provR l { hst1 u p with got := (hst1 u p).got + 1 } b now).l⟩ := by
    unfold gotR; rw [if_neg (by simp [hst1]), if_neg (by simp [hst1])]
  obtain ⟨r, hr⟩ : ∃ r, r = provR l { hst1 u p with got := (hst1 u p).got + 1 } b now := ⟨_, rfl⟩
  rw [← hr] at h1 h2 h3 h4 h5 e
  refine ⟨r.out, r.err, { r.st with bad := !decide (r.err = 0) }, r.l, e, h1, ?_, h2, h3, h4, h5 hl⟩
  show (!decide (r.err = 0)) = true ∨ r.st.done = true
  rw [h1]
  cases decide (r.err = 0) <;> simp
theorem got_over' (nh : Bs) (l : List UserS) (s : HSt) (b : Bs) (now : Int) (h : s.bad = true ∨ s.done = true) : gotR nh l s b now = ⟨[], 7, s, l⟩ := by
  unfold gotR; rw [if_pos h]
/-- Users and a host, made since world w0. -/
structure Duo (G : Nat → Prop) (w0 w : World) (ub hb : Nat) (nh : Bs) (l : List UserS) (s : HSt) : Prop where
  u : UsersAt G w ub l
  h : HostAt w hb ub nh s
  hn : ¬ G hb
  lo : ∀ x, G x → w0.heap.size ≤ x
  hl : w0.heap.size ≤ hb
  since : Pu w0 w
section
variable {G : Nat → Prop} {w0 w : World} {ub hb : Nat} {nh : Bs} {l : List UserS} {s : HSt}
theorem Duo.pu (t : Duo G w0 w ub hb nh l s) {w' : World} (hp : Pu w w') : Duo G w0 w' ub hb nh l s := ⟨t.u.pu hp, t.h.pu hp, t.hn, t.lo, t.hl, t.since.trans hp⟩
theorem duoGot (t : Duo G w0 w ub hb nh l s) (hn : nh.length = 16) (hl : ∀ u ∈ l, u.secret.length = 32) (hul : s.user.length ≤ 1000000) (hpl : s.papers.length ≤ 10000) (hgo : s.got ≤ 1000) (b : Bs) (hbl : b.length ≤ 10000) (now : Int) (n1 : -9223372036854775808 ≤ now) (n2 : now ≤ 9223372036854775807) :
    Calls Tryz.prog 30 #[.pointer (some ⟨hb, 0, none⟩), S b, .int .i64 now] w fun e w' => e = .returned (.tuple #[S (gotR nh l s b now).out, .int .i64 ((gotR nh l s b now).err : Int)]) ∧ Duo G w0 w' ub hb nh (gotR nh l s b now).l (gotR nh l s b now).st := by
  refine (gotW t.h t.u t.hn hn hl hul hpl hgo b hbl now n1 n2).mono ?_
  rintro e w' ⟨rfl, h1, h2, h3⟩
  refine ⟨rfl, h2, h1, t.hn, t.lo, t.hl, Cg.below t.since h3 ?_ t.since.size⟩
  rintro g (h | h)
  · exact t.lo g h
  · rw [h]; exact t.hl
theorem Duo.start {w1 w2 : World} (hu : UsersAt G w1 ub l) (h01 : Pu w0 w1) (lo : ∀ x, G x → w0.heap.size ≤ x) (hh : HostAt w2 hb ub nh s) (hhb : w1.heap.size ≤ hb) (h12 : Pu w1 w2) : Duo G w0 w2 ub hb nh l s := by
  have s1 := h01.size
  exact ⟨hu.pu h12, hh, fun h => by have := hu.dom _ h; omega, lo, by omega, h01.trans h12⟩
end
set_option maxRecDepth 100000 in
set_option maxHeartbeats 3200000 in
theorem shakeOrder_walk (s1 : ByteArray) (z1 : s1.size ≤ maxLen) (s2 : ByteArray) (z2 : s2.size ≤ maxLen) (w : World) :
    Calls Tryz.prog 7 #[.string s1, .string s2] w fun e w' => e = .returned (.bool true) ∧ Pu w w' := by
  obtain ⟨first, rfl⟩ : ∃ a, s1 = bs a := ⟨_, bs_eta s1⟩
  obtain ⟨second, rfl⟩ : ∃ a, s2 = bs a := ⟨_, bs_eta s2⟩
  clear z1 z2
  by_cases ha : 200 < first.length
  · have q4 : (200 : Int) < first.length := by omega
    go_enter Tryz.func7, Tryz.ntmps7
    go_wp2_with (go_at_call 12; refine (alive16 _).mono ?_; rintro e w1 ⟨rfl, hp1⟩)
    go_ret
    exact ⟨rfl, hp1⟩
  have q4 : ¬ (200 : Int) < first.length := by omega
  by_cases hb : 200 < second.length
  · have q5 : (200 : Int) < second.length := by omega
    go_enter Tryz.func7, Tryz.ntmps7
    go_wp2_with (go_at_call 12; refine (alive16 _).mono ?_; rintro e w1 ⟨rfl, hp1⟩)
    go_ret
    exact ⟨rfl, hp1⟩
  have q5 : ¬ (200 : Int) < second.length := by omega
  have hi2 : (Tryz.prog.info? 32).map (·.size) = some 2 := by kernel_rfl
  have hF1 := fun w => fillW [115] 32 (by decide) (by decide) w
  change ∀ w, Calls Tryz.prog 16 #[S [115], .int .i64 32] w fun e w' => e = .returned (S secS) ∧ w' = w at hF1
  have hnl : nonH.length = 16 := by decide
  have hUs := fun w => newOne annW secS ann_user w
  have hNh := fun ub w => newHost ub nonH hnl w
  have hu := mkU_len (one_ok ann_user)
  have hRg := fun w => refGetHello first (by omega) w
  have HF1 := Lib.hid hF1
  have HUS := Lib.hid hUs
  have HNH := Lib.hid hNh
  have HU := Lib.hid hu
  have T4 := Lib.hid True.intro
  have T5 := Lib.hid True.intro
  have k115 : (ByteArray.mk #[115]) = bs [115] := rfl
  have kann : (ByteArray.mk #[97, 110, 110]) = bs annW := rfl
  have kng : (ByteArray.mk #[48, 49, 50, 51, 52, 53, 54, 55, 56, 57, 97, 98, 99, 100, 101, 102]) = bs nonG := rfl
  have knh : (ByteArray.mk #[102, 101, 100, 99, 98, 97, 57, 56, 55, 54, 53, 52, 51, 50, 49, 48]) = bs nonH := rfl
  cases hg : getHello first with
  | none =>
    have e1 : gotR nonH (mkU [(annW, secS)]) hst0 first 1 = ⟨[], 2, ⟨1, true, [], [], false, [], []⟩, mkU [(annW, secS)]⟩ := by
      unfold gotR greetR greetS
      rw [if_neg (by simp [hst0]), if_pos (show hst0.got = 0 from rfl), hg]
      rfl
    rw [hg] at hRg
    obtain ⟨gu, hgu⟩ : ∃ x : Bs, x = [] := ⟨_, rfl⟩
    obtain ⟨gn, hgn⟩ : ∃ x : Bs, x = [] := ⟨_, rfl⟩
    have hRg' : ∀ w, Calls Tryz.prog 36 #[S first] w fun e w' => e = .returned (.tuple #[.agg #[S gu, S gn], .bool false]) ∧ Pu w w' := by rw [hgu, hgn]; exact hRg
    have hRh := fun w => refHello annW nonG (by decide) (by decide) w
    rw [show helloR annW nonG = some (helloL annW nonG) by unfold helloR; rw [if_pos ann_guest.hello]] at hRh
    have hRh' : ∀ w, Calls Tryz.prog 15 #[.agg #[S annW, S nonG]] w fun e w' => e = .returned (.tuple #[S (helloL annW nonG), .bool true]) ∧ Pu w w' := hRh
    have hhl : (helloL annW nonG).length = 21 := by decide +kernel
    obtain ⟨hel, hhel⟩ : ∃ x, x = helloL annW nonG := ⟨_, rfl⟩
    rw [← hhel] at hRh' hhl
    have HRG := Lib.hid hRg'
    have HRH := Lib.hid hRh'
    have E1 := Lib.hid e1
    have E2 := Lib.hid (got_over' nonH (mkU [(annW, secS)]) ⟨1, true, [], [], false, [], []⟩ hel 1 (.inl rfl))
    clear hF1 hUs hNh hu hRg hRg' hRh hRh' e1 hgu hgn hhel hg
    go_enter Tryz.func7, Tryz.ntmps7
    go_wp2_with (first
      | (go_at_call 12; refine (alive16 _).mono ?_; rintro e w1 ⟨rfl, hp1⟩)
      | (go_at_call 16; refine (HF1.out _).mono ?_; rintro e w1 ⟨rfl, rfl⟩)
      | (go_at_call 28; refine (HUS.out _).mono ?_; rintro e w2 ⟨ub, G, rfl, hu2, hlo, hp2⟩)
      | (go_at_call 29; refine (HNH.out ub _).mono ?_; rintro e w4 ⟨hb, rfl, hh4, hhl, hp4⟩
         have t4 := Duo.start hu2 hp2 hlo hh4 hhl hp4
         clear hu2 hh4 hp2 hp4)
      | (go_at_call 36; refine (HRG.out _).mono ?_; rintro e w5 ⟨rfl, hp5⟩)
      | (refine wpList_store_part rfl 32 (.tmp 8) (.tmp 47) rfl w5.heap.size 0 [S gu, S gn] (by rfl) (by rfl) (Row.newAt w5 w5.heap.size _ _ rfl rfl) hi2 (by simp) (by simp [Value.oneCell']) ?_; intro w6 hr6 hch6
         have hp6 : Pu w5 w6 := hch6.below ((Pu.refl w5).alloc _) (Nat.le_refl _)
         have t6 := (t4.pu hp5).pu hp6
         clear hch6 hr6)
      | (go_at_call 30; clear T4; refine (duoGot t6 hnl HU.out (by decide) (by decide) (by decide) first (by omega) 1 (by decide) (by decide)).mono ?_; rw [E1.out]; rintro e w7 ⟨rfl, t7⟩)
      | (go_at_call 15; refine (HRH.out _).mono ?_; rintro e w8 ⟨rfl, hp8⟩; have t8 := t7.pu hp8)
      | (go_at_call 30; refine (duoGot t8 hnl HU.out (by decide) (by decide) (by decide) hel (by omega) 1 (by decide) (by decide)).mono ?_; rw [E2.out]; rintro e w9 ⟨rfl, t9⟩)
      | (go_at_call 31; refine (doneW t9.h).mono ?_; rintro e w10 ⟨rfl, rfl⟩)
      | (go_at_call 32; refine (userW t9.h).mono ?_; rintro e w11 ⟨rfl, rfl⟩))
    go_ret
    exact ⟨rfl, Pu.trans hp1 t9.since⟩
  | some p =>
    obtain ⟨gu, gn⟩ := p
    obtain ⟨hok, hfe⟩ := getHello_some hg
    rw [hg] at hRg
    have hRg' : ∀ w, Calls Tryz.prog 36 #[S first] w fun e w' => e = .returned (.tuple #[.agg #[S gu, S gn], .bool true]) ∧ Pu w w' := hRg
    have e1 := got_hello nonH (mkU [(annW, secS)]) gu gn 1 hok
    rw [← hfe] at e1
    obtain ⟨pap, hpap⟩ : ∃ x, x = first ++ chalL nonH := ⟨_, rfl⟩
    have hpl : pap.length = first.length + 17 := by rw [hpap, List.length_append]; rfl
    rw [← hpap] at e1
    obtain ⟨o, E, t, l2, e2, hdn, hbd, htu, htp, htg, hl2⟩ := got_second nonH (mkU [(annW, secS)]) gu pap second 1 hu
    have e3 := got_over' nonH l2 t second 1 hbd
    have hul : gu.length ≤ 20 := hok.2.2
    obtain ⟨c, hc⟩ : ∃ x, x = chalL nonH := ⟨_, rfl⟩
    rw [← hc] at e1
    have HRG := Lib.hid hRg'
    have E1 := Lib.hid e1
    have E2 := Lib.hid e2
    have E3 := Lib.hid e3
    have HTU := Lib.hid htu
    have HTP := Lib.hid htp
    have HTG := Lib.hid htg
    have HL2 := Lib.hid hl2
    have HPL := Lib.hid hpl
    by_cases hE : E = 0
    · have hd2 : t.done = true := by rw [hdn]; simp [hE]
      have HDN := Lib.hid hd2
      clear hF1 hUs hNh hu hRg hRg' e1 e2 e3 hg hok hfe hpap hpl hdn hbd htu htp htg hl2 hc hd2
      subst hE
      go_enter Tryz.func7, Tryz.ntmps7
      go_wp2_with (first
        | (go_at_call 12; refine (alive16 _).mono ?_; rintro e w1 ⟨rfl, hp1⟩)
        | (go_at_call 16; refine (HF1.out _).mono ?_; rintro e w1 ⟨rfl, rfl⟩)
        | (go_at_call 28; refine (HUS.out _).mono ?_; rintro e w2 ⟨ub, G, rfl, hu2, hlo, hp2⟩)
        | (go_at_call 29; refine (HNH.out ub _).mono ?_; rintro e w4 ⟨hb, rfl, hh4, hhl, hp4⟩
           have t4 := Duo.start hu2 hp2 hlo hh4 hhl hp4
           clear hu2 hh4 hp2 hp4)
        | (go_at_call 36; refine (HRG.out _).mono ?_; rintro e w5 ⟨rfl, hp5⟩)
        | (refine wpList_store_part rfl 32 (.tmp 8) (.tmp 47) rfl w5.heap.size 0 [S gu, S gn] (by rfl) (by rfl) (Row.newAt w5 w5.heap.size _ _ rfl rfl) hi2 (by simp) (by simp [Value.oneCell']) ?_; intro w6 hr6 hch6
           have hp6 : Pu w5 w6 := hch6.below ((Pu.refl w5).alloc _) (Nat.le_refl _)
           have t6 := (t4.pu hp5).pu hp6
           clear hch6 hr6)
        | (go_at_call 30; clear T4; refine (duoGot t6 hnl HU.out (by decide) (by decide) (by decide) first (by omega) 1 (by decide) (by decide)).mono ?_; rw [E1.out]; rintro e w7 ⟨rfl, t7⟩)
        | (go_at_call 30; clear T5; refine (duoGot t7 hnl HU.out (by show List.length gu ≤ 1000000; omega) (by show List.length pap ≤ 10000; rw [HPL.out]; omega) (by show (1 : Nat) ≤ 1000; omega) second (by omega) 1 (by decide) (by decide)).mono ?_; rw [E2.out]; rintro e w8 ⟨rfl, t8⟩)
        | (go_at_call 30; refine (duoGot t8 hnl HL2.out (by show List.length t.user ≤ 1000000; rw [HTU.out]; omega) (by show List.length t.papers ≤ 10000; rw [HTP.out, HPL.out]; omega) (by show t.got ≤ 1000; rw [HTG.out]; omega) second (by omega) 1 (by decide) (by decide)).mono ?_; rw [E3.out]; rintro e w9 ⟨rfl, t9⟩)
        | (go_at_call 31; refine (doneW (s := t) t9.h).mono ?_; rw [HDN.out]; rintro e w10 ⟨rfl, rfl⟩))
      go_ret
      exact ⟨rfl, Pu.trans hp1 t9.since⟩
    · have hd2 : t.done = false := by rw [hdn]; simp [hE]
      have kE : ((E : Int) != 0) = true := by simp; omega
      have HDN := Lib.hid hd2
      clear hF1 hUs hNh hu hRg hRg' e1 e2 e3 hg hok hfe hpap hpl hdn hbd htu htp htg hl2 hc hd2
      go_enter Tryz.func7, Tryz.ntmps7
      go_wp2_with (first
        | (go_at_call 12; refine (alive16 _).mono ?_; rintro e w1 ⟨rfl, hp1⟩)
        | (go_at_call 16; refine (HF1.out _).mono ?_; rintro e w1 ⟨rfl, rfl⟩)
        | (go_at_call 28; refine (HUS.out _).mono ?_; rintro e w2 ⟨ub, G, rfl, hu2, hlo, hp2⟩)
        | (go_at_call 29; refine (HNH.out ub _).mono ?_; rintro e w4 ⟨hb, rfl, hh4, hhl, hp4⟩
           have t4 := Duo.start hu2 hp2 hlo hh4 hhl hp4
           clear hu2 hh4 hp2 hp4)
        | (go_at_call 36; refine (HRG.out _).mono ?_; rintro e w5 ⟨rfl, hp5⟩)
        | (refine wpList_store_part rfl 32 (.tmp 8) (.tmp 47) rfl w5.heap.size 0 [S gu, S gn] (by rfl) (by rfl) (Row.newAt w5 w5.heap.size _ _ rfl rfl) hi2 (by simp) (by simp [Value.oneCell']) ?_; intro w6 hr6 hch6
           have hp6 : Pu w5 w6 := hch6.below ((Pu.refl w5).alloc _) (Nat.le_refl _)
           have t6 := (t4.pu hp5).pu hp6
           clear hch6 hr6)
        | (go_at_call 30; clear T4; refine (duoGot t6 hnl HU.out (by decide) (by decide) (by decide) first (by omega) 1 (by decide) (by decide)).mono ?_; rw [E1.out]; rintro e w7 ⟨rfl, t7⟩)
        | (go_at_call 30; clear T5; refine (duoGot t7 hnl HU.out (by show List.length gu ≤ 1000000; omega) (by show List.length pap ≤ 10000; rw [HPL.out]; omega) (by show (1 : Nat) ≤ 1000; omega) second (by omega) 1 (by decide) (by decide)).mono ?_; rw [E2.out]; rintro e w8 ⟨rfl, t8⟩)
        | (go_at_call 30; refine (duoGot t8 hnl HL2.out (by show List.length t.user ≤ 1000000; rw [HTU.out]; omega) (by show List.length t.papers ≤ 10000; rw [HTP.out, HPL.out]; omega) (by show t.got ≤ 1000; rw [HTG.out]; omega) second (by omega) 1 (by decide) (by decide)).mono ?_; rw [E3.out]; rintro e w9 ⟨rfl, t9⟩)
        | (go_at_call 31; refine (doneW (s := t) t9.h).mono ?_; rw [HDN.out]; rintro e w10 ⟨rfl, rfl⟩))
      go_ret
      exact ⟨rfl, Pu.trans hp1 t9.since⟩
end Go.Proofs.YtlbdbmnkjljohaaGreat
