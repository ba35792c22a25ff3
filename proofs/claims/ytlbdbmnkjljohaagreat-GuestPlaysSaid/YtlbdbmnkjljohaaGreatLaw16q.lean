/- Chapter 16: GuestPlays. -/
import Derived.Test.YtlbdbmnkjljohaaGreatLaw16p
import Derived.Deep.DeepCutAuto
set_option linter.unusedSimpArgs false
set_option linter.unusedVariables false
namespace Go.Proofs.YtlbdbmnkjljohaaGreat
open Go.RowKit Go.Esc
theorem index_ofT (a : Int) : ∃ i : Nat, ∃ r : Int, a.tmod 32 = r ∧ -32 < r ∧ r < 32 ∧ IntKind.i64.wrap (r + 32) = r + 32 ∧ (r + 32).tmod 32 = i ∧ i < 32 := by
  have hr1 : -(32 : Int) < a.tmod 32 := Int.lt_tmod_of_pos a (by omega)
  have hr2 : a.tmod 32 < 32 := Int.tmod_lt_of_pos a (by omega)
  have h5 : 0 ≤ (a.tmod 32 + 32) := by omega
  have h6 : (a.tmod 32 + 32).tmod 32 = (a.tmod 32 + 32) % 32 := Int.tmod_eq_emod_of_nonneg h5
  refine ⟨((a.tmod 32 + 32) % 32).toNat, _, rfl, hr1, hr2, by rw [IntKind.wrap_i64]; omega, ?_, by omega⟩
  rw [h6]; omega
theorem row_six {w : World} {g : Nat} {e : TypeId} {a b c d x y : Value} (h : Row w g e [a, b, c, d, x, y]) : w.cell? ⟨g, 0, none⟩ = some a ∧ w.cell? ⟨g, 2, none⟩ = some c ∧ w.cell? ⟨g, 3, none⟩ = some d ∧ w.cell? ⟨g, 5, none⟩ = some y := by
  refine ⟨?_, ?_, ?_, ?_⟩
  · have := h.cell 0 (by simp); simpa using this
  · have := h.cell 2 (by simp); simpa using this
  · have := h.cell 3 (by simp); simpa using this
  · have := h.cell 5 (by simp); simpa using this
/-- The guest, and the user that came in, as the round finds them. -/
structure Play (w0 w : World) (gb : Nat) (nm sc na pap : Bs) (st : Nat) : Prop where
  g : GuestAt w gb nm sc na pap st
  u : Row w w0.heap.size 23 [S nm, S sc]
  hg : w0.heap.size < gb
  since : Pu w0 w
theorem Play.pu {w0 w w' : World} {gb : Nat} {nm sc na pap : Bs} {st : Nat} (h : Play w0 w gb nm sc na pap st) (hp : Pu w w') : Play w0 w' gb nm sc na pap st := ⟨h.g.pu hp, h.u.pu hp, h.hg, h.since.trans hp⟩
theorem Play.but {w0 w w' : World} {gb : Nat} {nm sc na pap pap' : Bs} {st st' : Nat} (h : Play w0 w gb nm sc na pap st) (hg : GuestAt w' gb nm sc na pap' st') (hb : But gb w w') : Play w0 w' gb nm sc na pap' st' :=
  ⟨hg, hb.row h.u (by have := h.hg; omega), h.hg, But.below h.since hb (by have := h.hg; omega) h.since.size⟩
theorem Play.cells {w0 w : World} {gb : Nat} {nm sc na pap : Bs} {st : Nat} (h : Play w0 w gb nm sc na pap st) : w.cell? ⟨w0.heap.size, 0, none⟩ = some (S nm) ∧ w.cell? ⟨w0.heap.size, 1, none⟩ = some (S sc) := by
  refine ⟨?_, ?_⟩
  · have := h.u.cell 0 (by simp); simpa using this
  · have := h.u.cell 1 (by simp); simpa using this
set_option maxRecDepth 100000 in
set_option maxHeartbeats 8000000 in
theorem guest_main {w : World} (nm sc na : Bs) (a : Option Addr) (len cap : Nat) (L : List OpV) (hL : Ops w a len L) (h0 : len ≤ 20) (hgo : guestOk nm sc na) :
    Calls Tryz.prog 3 #[.agg #[S nm, S sc], S na, .slice a len cap] w fun e w' => e = .returned (.bool true) ∧ Pu w w' := by
  have hp0 := (Pu.refl w).alloc (.cells #[S nm, S sc] 23)
  have hr0 : Row (w.alloc (.cells #[S nm, S sc] 23)) w.heap.size 23 [S nm, S sc] := Row.newAt _ _ _ _ rfl rfl
  have hi2 : (Tryz.prog.info? 23).map (·.size) = some 2 := by kernel_rfl
  have hi4 : (Tryz.prog.info? 44).map (·.size) = some 2 := by kernel_rfl
  have hi6 : (Tryz.prog.info? 34).map (·.size) = some 6 := by kernel_rfl
  have hub := hgo.1
  have hub2 := hub
  unfold userB at hub2
  simp at hub2
  have hnl := nameB_len hub2.1
  have hsl := hub2.2
  have hal := hgo.2
  have q0 : ¬ (20 : Int) < len := by omega
  have q1 : ¬ (100 : Int) < nm.length := by omega
  have q2 : ¬ (100 : Int) < sc.length := by omega
  have q3 : ¬ (60 : Int) < na.length := by omega
  have q4 : ((na.length : Int) != 16) = false := by simp; omega
  have q5 : (na.length : Int) = 16 := by omega
  have hNg := fun w => newGuest nm sc na hgo w
  have hUs := fun w => refUser nm sc (by omega) (by omega) w
  have hRh := fun w => refHello nm na (by omega) (by omega) w
  rw [hub] at hUs
  rw [show helloR nm na = some (helloL nm na) by unfold helloR; rw [if_pos hgo.hello]] at hRh
  have hhl : (helloL nm na).length = 2 + nm.length + 16 := by rw [helloL_length, hal]
  obtain ⟨hel, hhel⟩ : ∃ x, x = helloL nm na := ⟨_, rfl⟩
  rw [← hhel] at hRh hhl
  have hRh' : ∀ w, Calls Tryz.prog 15 #[.agg #[S nm, S na]] w fun e w' => e = .returned (.tuple #[S hel, .bool true]) ∧ Pu w w' := hRh
  have hln := hL.none
  have hll := hL.length
  have HLn := Lib.hid hln
  have HLl := Lib.hid hll
  have HL := Lib.hid hL
  have HNG := Lib.hid hNg
  have HUS := Lib.hid hUs
  have HRH := Lib.hid hRh'
  have HGO := Lib.hid hgo
  have HHEL := Lib.hid hhel
  have HHL := Lib.hid hhl
  have T1 := Lib.hid True.intro
  clear hL hNg hUs hRh hRh' hgo hhel hub hub2 hhl hln hll
  go_enter Tryz.func3, Tryz.ntmps3
  go_wp2_with (first
    | (go_at_call 12; refine (alive16 _).mono ?_; rintro e w1 ⟨rfl, hp1⟩; have hr1 := hr0.pu hp1)
    | (refine wpList_load_row rfl 23 (.tmp 3) rfl w.heap.size [S nm, S sc] (by rfl) hr1 Tryz.underlying23 rfl hi2 ?_)
    | (go_at_call 13; refine (HNG.out _).mono ?_; rintro e w2 ⟨gb, rfl, hg2, hgl2, hp2⟩
       have P2 : Play w w2 gb nm sc na [] 0 := ⟨hg2, hr1.pu hp2, by have := hp1.size; simp at this; omega, (hp0.trans hp1).trans hp2⟩)
    | (refine wpList_load_row rfl 23 (.tmp 3) rfl w.heap.size [S nm, S sc] (by rfl) P2.u Tryz.underlying23 rfl hi2 ?_)
    | (go_at_call 14; refine (HUS.out _).mono ?_; rintro e w3 ⟨rfl, hp3⟩
       have P3 := P2.pu hp3
       obtain ⟨u0, u1⟩ := P3.cells)
    | (go_at_call 15; refine (HRH.out _).mono ?_; rintro e w4 ⟨rfl, hp4⟩; have P4 := P3.pu hp4))
  clear u0 u1 P3 P2 hg2 hgl2 hp2 hp1 hr1 hp3 hp4 hr0
  go_loopw [12, 10, 11, 13, 14, 15, 16, 17, 18, 19, 20, 21, 22, 23, 24, 25, 26, 137, 146, 208, 211, 214] (fun xi xs xp _ _ _ _ _ _ _ _ _ _ _ _ _ _ _ _ _ _ _ wr => ∃ (k st : Nat) (pap : Bs), k ≤ len ∧ xi = .int .i64 (k : Int) ∧ xs = .int .i64 (st : Int) ∧ xp = S pap ∧ st ≤ 2 ∧ pap.length ≤ 400 ∧ Play w wr gb nm sc na pap st) (fun xi _ _ _ _ _ _ _ _ _ _ _ _ _ _ _ _ _ _ _ _ _ _ => len - (intOf xi).toNat)
  case atStart => exact ⟨0, 0, [], by omega, rfl, rfl, rfl, by omega, by simp, P4⟩
  case round =>
    obtain ⟨k, st, pap, hk, rfl, rfl, rfl, hst, hpp, P⟩ := hrel
    clear P4
    by_cases hlt : k < len
    rotate_left
    · obtain rfl : k = len := by omega
      have hnl2 : decide ((k : Int) < k) = false := by simp
      have hs := HHL.out
      have zzh : ¬ (9223372036854775807 < hel.length + 1) := by omega
      have k120 : (ByteArray.mk #[120]) = bs [120] := rfl
      as_aux_lemma =>
       go_wp2_with (first
        | (go_at_call 18; refine (chalNil _).mono ?_; rintro e w5 ⟨rfl, rfl⟩)
        | (go_at_call 22; refine (finNil _).mono ?_; rintro e w6 ⟨rfl, hp6⟩; have P6 := P.pu hp6)
        | (refine wpList_store_part rfl 44 (.tmp 30) (.tmp 249) rfl w6.heap.size 0 [S [], S []] (by rfl) (by rfl) (Row.newAt w6 w6.heap.size _ _ rfl rfl) hi4 (by simp) (by simp [Value.oneCell']) ?_; intro w7 hr7 hch7
           have P7 := P6.pu (hch7.below ((Pu.refl w6).alloc _) (Nat.le_refl _))
           clear hch7)
        | (go_at_call 24; refine (helloNil _).mono ?_; rintro e w8 ⟨rfl, rfl⟩)
        | (go_at_call 20; refine (stepNil _).mono ?_; rintro e w8 ⟨rfl, rfl⟩)
        | (go_at_call 25; refine (papersW hel [120] (by omega) (by simp) _).mono ?_; rintro e w8 ⟨rfl, rfl⟩))
       go_ret
       exact ⟨rfl, P7.since⟩
    rcases a with _ | x
    · have := HLn.out rfl; omega
    have hkL : k < L.length := by have := HLl.out; omega
    have hok := HL.out.ok _ (List.getElem_mem hkL)
    have hld := fun w' (hp : Pu w w') => (HL.out.keep hp).load (P := Tryz.prog) k hkL 34 Tryz.underlying34 rfl hi6
    obtain ⟨o, ho⟩ : ∃ o, o = L[k] := ⟨_, rfl⟩
    rw [← ho] at hok
    simp only [← ho] at hld
    obtain ⟨kd, nw, ps, vl, on, bd⟩ := o
    obtain ⟨-, -, -, hvl, hol, hbl⟩ := hok
    simp only at hvl hol hbl
    have hld' : ∀ w', Pu w w' → (loadVar 34 (x.add (k * 6))).run Tryz.prog w' = .ok (.agg #[.int .i64 kd, .int .i64 nw, .int .i64 ps, .int .u8 vl, S on, S bd]) w' := hld
    have HLD := Lib.hid hld'
    have HP := Lib.hid P
    obtain ⟨y, rfl⟩ : ∃ c : UInt8, vl = (c.toNat : Int) := by
      have : 0 ≤ vl ∧ vl ≤ 255 := by
        simp [Lit.wf, IntKind.min, IntKind.max, IntKind.signed, IntKind.bits] at hvl
        omega
      exact ⟨UInt8.ofNat vl.toNat, by simp; omega⟩
    unfold maxLen at hol hbl
    have hlti : (k : Int) < len := by omega
    have hk0 : (0 : Int) ≤ k := by omega
    clear hld hld' ho hvl P hkL
    by_cases hbig : 300 < bd.length
    · have q9 : (300 : Int) < bd.length := by omega
      go_wp2_with (first
        | (refine wpList_load_at rfl 34 (.tmp 88) rfl (x.add (k * 6)) _ (by first | rfl | simp [Act.eval]) (HLD.out _ HP.out.since) ?_)
        | (refine wpList_store_part rfl 34 (.tmp 13) (.tmp 89) rfl wr.heap.size 0 [.int .i64 kd, .int .i64 nw, .int .i64 ps, .int .u8 (y.toNat : Int), S on, S bd] (by rfl) (by rfl) (Row.newAt wr wr.heap.size _ _ rfl rfl) hi6 (by simp) (by simp [Value.oneCell']) ?_; intro w5 hr5 hch5
           have hp5 : Pu wr w5 := hch5.below ((Pu.refl wr).alloc _) (Nat.le_refl _)
           rw [splice_all (by rfl)] at hr5
           obtain ⟨d0, d2, d3, d5⟩ := row_six hr5
           clear hch5))
      go_ret
      exact ⟨rfl, (HP.out.pu hp5).since⟩
    have q9 : ¬ (300 : Int) < bd.length := by omega
    by_cases hodd : Go.bits .and .i64 kd 1 = 1
    · go_upto_if 102 with (first
        | (refine wpList_load_at rfl 34 (.tmp 88) rfl (x.add (k * 6)) _ (by first | rfl | simp [Act.eval]) (HLD.out _ HP.out.since) ?_)
        | (refine wpList_store_part rfl 34 (.tmp 13) (.tmp 89) rfl wr.heap.size 0 [.int .i64 kd, .int .i64 nw, .int .i64 ps, .int .u8 (y.toNat : Int), S on, S bd] (by rfl) (by rfl) (Row.newAt wr wr.heap.size _ _ rfl rfl) hi6 (by simp) (by simp [Value.oneCell']) ?_; intro w5 hr5 hch5
           have hp5 : Pu wr w5 := hch5.below ((Pu.refl wr).alloc _) (Nat.le_refl _)
           rw [splice_all (by rfl)] at hr5
           obtain ⟨d0, d2, d3, d5⟩ := row_six hr5
           clear hch5))
      go_cut [14] (fun xb wx => ∃ b : Bs, xb = S b ∧ b.length ≤ 301 ∧ Pu w5 wx)
      case first =>
        have hfb := fillL_len bd 16
        have hF := fun w => fillW bd 16 (by omega) (by decide) w
        obtain ⟨fb, hfbe⟩ : ∃ x, x = fillL bd 16 := ⟨_, rfl⟩
        rw [← hfbe] at hfb hF
        have HF := Lib.hid hF
        have k2 : (ByteArray.mk #[2]) = bs [2] := rfl
        have zz2 : ¬ (9223372036854775807 < 1 + fb.length) := by omega
        clear hF hfbe
        by_cases hk1 : kd = 1
        · subst hk1
          as_aux_lemma =>
           go_wp2_with (go_at_call 16; refine (HF.out _).mono ?_; rintro e w6 ⟨rfl, rfl⟩)
           go_meet
           exact ⟨2 :: fb, rfl, by simp; omega, Pu.refl _⟩
        · have hk1' : (kd == 1) = false := by simpa using hk1
          as_aux_lemma =>
           go_wp2_with fail
           go_meet
           exact ⟨bd, rfl, by omega, Pu.refl _⟩
      case rest =>
        obtain ⟨b, rfl, hb, hpc⟩ := hcut
        have P5 := HP.out.pu (hp5.trans hpc)
        have hFx := fixedW 2 16 (by decide) (by decide) b (by omega) wc
        have hC := challengeW P5.g (by omega) HGO.out b (by omega)
        rw [← HHEL.out] at hC
        obtain ⟨fx, hfx⟩ : ∃ f, f = fixR 2 16 b := ⟨_, rfl⟩
        rw [← hfx] at hFx
        clear d0 d2 d3 d5 hr5
        by_cases hs0 : st = 0
        rotate_left
        · have e9 : chalS sc hel pap st b = ([], 7, pap, st) := by unfold chalS; rw [if_pos hs0]
          rw [e9] at hC
          have s1 : ((st : Int) != 0) = true := by simp; omega
          have s2 : ¬ (st : Int) = 0 := by omega
          have HC := Lib.hid hC
          have HFX := Lib.hid hFx
          clear hC hFx e9 hfx
          as_aux_lemma =>
           go_wp2_with (first
             | (go_at_call 17; refine HFX.out.mono ?_; rintro e w6 ⟨rfl, rfl⟩)
             | (go_at_call 18; refine HC.out.mono ?_; rintro e w7 ⟨rfl, hg7, hb7⟩
                have P7 := P5.but hg7 hb7)
             | (go_at_call 20; refine (stepG P7.g (by omega)).mono ?_; rintro e w8 ⟨rfl, rfl⟩))
           go_roundw
           case rel => refine ⟨k + 1, st, pap, by omega, by go_num, rfl, rfl, hst, hpp, ?_⟩; exact P7
           case measure => simp [intOf]; omega
        have s1 : ((st : Int) != 0) = false := by simp; omega
        cases fx with
        | none =>
          have e9 : chalS sc hel pap st b = ([], 2, pap, st) := by unfold chalS; rw [if_neg (by simp [hs0]), ← hfx]
          have s3 : ((st : Int) == 0) = true := by simp; omega
          clear hs0
          rw [e9] at hC
          have HC := Lib.hid hC
          have HFX := Lib.hid hFx
          clear hC hFx e9 hfx
          as_aux_lemma =>
           go_wp2_with (first
             | (go_at_call 17; refine HFX.out.mono ?_; rintro e w6 ⟨rfl, rfl⟩)
             | (go_at_call 18; refine HC.out.mono ?_; rintro e w7 ⟨rfl, hg7, hb7⟩
                have P7 := P5.but hg7 hb7)
             | (go_at_call 20; refine (stepG P7.g (by omega)).mono ?_; rintro e w8 ⟨rfl, rfl⟩))
           go_roundw
           case rel => first | exact ⟨k + 1, st, pap, by omega, by go_num, rfl, rfl, hst, hpp, P7⟩ | ((repeat apply Exists.intro); exact ⟨⟨k + 1, st, pap, by omega, by go_num, rfl, rfl, hst, hpp, P7⟩, rfl⟩)
           case measure => simp [intOf]; omega
        | some n =>
          obtain ⟨hbl2, hnn, -⟩ := fixR_some hfx.symm
          have e9 : chalS sc hel pap st b = (3 :: proofL sc (hel ++ b), 0, hel ++ b, 1) := by unfold chalS; rw [if_neg (by simp [hs0]), ← hfx]
          clear hs0
          rw [e9] at hC
          have hs9 := HHL.out
          have hpl : (hel ++ b).length ≤ 400 := by rw [List.length_append]; omega
          have hPr := fun w => refProof sc (hel ++ b) (by omega) (by omega) w
          have hpfl := proofL_length sc (hel ++ b)
          obtain ⟨pf, hpf⟩ : ∃ x, x = proofL sc (hel ++ b) := ⟨_, rfl⟩
          rw [← hpf] at hPr hpfl hC
          have zz3 : ¬ (9223372036854775807 < hel.length + b.length) := by omega
          have zz1 : ¬ (9223372036854775807 < 1 + pf.length) := by omega
          have k3 : (ByteArray.mk #[3]) = bs [3] := rfl
          have hnn' : (n.length : Int) = 16 := by omega
          have hv : optV (some n) = n := rfl
          have HC := Lib.hid hC
          have HFX := Lib.hid hFx
          have HPR := Lib.hid hPr
          have HPL := Lib.hid hpl
          clear hC hFx e9 hfx hPr hpf hpl
          as_aux_lemma =>
           go_wp2_with (first
             | (go_at_call 17; refine HFX.out.mono ?_; rintro e w6 ⟨rfl, rfl⟩)
             | (go_at_call 18; refine HC.out.mono ?_; rintro e w7 ⟨rfl, hg7, hb7⟩
                have P7 := P5.but hg7 hb7
                obtain ⟨v0, v1⟩ := P7.cells)
             | (go_at_call 19; refine (HPR.out _).mono ?_; rintro e w8 ⟨rfl, hp8⟩
                have P8 := P7.pu hp8)
             | (go_at_call 20; refine (stepG P8.g (by omega)).mono ?_; rintro e w9 ⟨rfl, rfl⟩))
           go_roundw
           case rel => exact ⟨k + 1, 1, hel ++ b, by omega, by go_num, rfl, rfl, by omega, HPL.out, P8⟩
           case measure => simp [intOf]; omega
    · go_upto_if 167 with (first
        | (refine wpList_load_at rfl 34 (.tmp 88) rfl (x.add (k * 6)) _ (by first | rfl | simp [Act.eval]) (HLD.out _ HP.out.since) ?_)
        | (refine wpList_store_part rfl 34 (.tmp 13) (.tmp 89) rfl wr.heap.size 0 [.int .i64 kd, .int .i64 nw, .int .i64 ps, .int .u8 (y.toNat : Int), S on, S bd] (by rfl) (by rfl) (Row.newAt wr wr.heap.size _ _ rfl rfl) hi6 (by simp) (by simp [Value.oneCell']) ?_; intro w5 hr5 hch5
           have hp5 : Pu wr w5 := hch5.below ((Pu.refl wr).alloc _) (Nat.le_refl _)
           rw [splice_all (by rfl)] at hr5
           obtain ⟨d0, d2, d3, d5⟩ := row_six hr5
           clear hch5))
      have P5 := HP.out.pu hp5
      obtain ⟨u0, u1⟩ := P5.cells
      go_cut [19, 20] (fun xb _ wx => ∃ b : Bs, xb = S b ∧ b.length ≤ 300 ∧ Pu w5 wx)
      case first =>
        by_cases hk2 : kd = 2
        rotate_left
        · have hk2' : (kd == 2) = false := by simpa using hk2
          as_aux_lemma =>
           go_wp2_with fail
           go_meet
           exact ⟨bd, rfl, by omega, Pu.refl _⟩
        subst hk2
        have hFi := fun w => refFinish sc pap (by omega) (by omega) w
        have hfl := finishL_length sc pap
        obtain ⟨fi, hfi⟩ : ∃ x, x = finishL sc pap := ⟨_, rfl⟩
        rw [← hfi] at hFi hfl
        have HFI := Lib.hid hFi
        have zz1 : ¬ (9223372036854775807 < 1 + fi.length) := by omega
        have k4 : (ByteArray.mk #[4]) = bs [4] := rfl
        clear hFi hfi
        by_cases hat : Go.bits .and .i64 ps 1 = 1
        rotate_left
        · go_wp2_with (first
            | (go_at_call 21; refine (HFI.out _).mono ?_; rintro e w6 ⟨rfl, hp6⟩)
            | (refine wpList_bytes _ rfl (.tmp 171) 9 42 5 rfl fi (by first | rfl | simp [Act.eval]) Tryz.underlying9 Tryz.underlying42 Tryz.underlying5 ?_; intro w7 cp hrow hpu hcap
               have hcv := Row.conv (P := Tryz.prog) (cap := cp) (n := 32) 42 9 hrow hfl.symm Tryz.underlying42 Tryz.underlying5 Tryz.underlying9
               obtain ⟨d0, d2, d3, d5⟩ := row_six ((hr5.pu hp6).pu hpu)))
          go_meet
          exact ⟨4 :: fi, rfl, by simp; omega, hp6.trans hpu⟩
        obtain ⟨ii, r3, f1, -, -, f2, f3, hii⟩ := index_ofT ps
        have hil : ii < fi.length := by omega
        obtain ⟨xx, hxx⟩ : ∃ x, fi[ii]'hil = x := ⟨_, rfl⟩
        obtain ⟨v, hv⟩ : ∃ v, v = xx ^^^ y := ⟨_, rfl⟩
        have hxv : Go.bits .xor .u8 (xx.toNat : Int) (y.toNat : Int) = (v.toNat : Int) := by rw [xor_val, hv]
        obtain ⟨m2, hm2⟩ : ∃ m2, m2 = fi.set ii v := ⟨_, rfl⟩
        have hm2l : m2.length = 32 := by rw [hm2, List.length_set]; exact hfl
        have hi0 : (0 : Int) ≤ ii := by omega
        have hi32 : (ii : Int) < 32 := by omega
        have zz2 : ¬ (9223372036854775807 < 1 + m2.length) := by omega
        have HXX := Lib.hid hxx
        have HSET := Lib.hid hm2.symm
        have HM2 := Lib.hid hm2l
        have HFL := Lib.hid hfl
        clear hxx hv hm2 hm2l zz1
        as_aux_lemma =>
         go_wp2_with (first
             | (go_at_call 21; refine (HFI.out _).mono ?_; rintro e w6 ⟨rfl, hp6⟩)
             | (refine wpList_bytes _ rfl (.tmp 171) 9 42 5 rfl fi (by first | rfl | simp [Act.eval]) Tryz.underlying9 Tryz.underlying42 Tryz.underlying5 ?_; intro w7 cp hrow hpu hcap
                have hr7 := (hr5.pu hp6).pu hpu
                obtain ⟨d0, d2, d3, d5⟩ := row_six hr7))
         have HD := Lib.hid (fun w' (hp : Pu w7 w') => row_six (hr7.pu hp))
         have hjl32 : fi.length = 32 := HFL.out
         clear d0 d2 d3 d5
         apply region_last (n := 12) (hn := by kernel_rfl) (hlast := rfl) (hU := by kernel_rfl) (Φs := (Is _ :: Is _ :: Is _ :: Is _ :: Is _ :: Is _ :: Is _ :: Is _ :: Is _ :: Is _ :: Is _ :: Is _ :: [])) (hm := by kernel_rfl) (hE := by kernel_rfl) (hD := by kernel_rfl) (hsize := by kernel_rfl)
         case hop =>
           refine ⟨?_, ?_, ?_, ?_, ?_, ?_, ?_, ?_, ?_, ?_, ?_, ?_, trivial⟩
           · intro a' w' hs hp he
             have e20 := hs 20 (by kernel_rfl)
             try simp [Is, Region.binds] at he
             exact op_val rfl (wanted_none rfl) (by first | (go_simp; done) | (go_simp; rfl) | (simp [execOp, Act.eval, go_sem, *]; done) | (simp [execOp, Act.eval, go_sem, *]; rfl)) rfl (Pu.refl _)
           · intro a' w' hs hp he
             have e13 := hs 13 (by kernel_rfl)
             try simp [Is, Region.binds] at he
             exact op_val rfl (wanted_none rfl) (by first | (go_simp; done) | (go_simp; rfl) | (simp [execOp, Act.eval, go_sem, *]; done) | (simp [execOp, Act.eval, go_sem, *]; rfl)) rfl (Pu.refl _)
           · intro a' w' hs hp he
             try simp [Is, Region.binds] at he
             obtain ⟨d0, d2, d3, d5⟩ := HD.out _ hp; exact op_val rfl (wanted_none rfl) (by first | (go_simp; done) | (go_simp; rfl)) rfl (Pu.refl _)
           · intro a' w' hs hp he
             try simp [Is, Region.binds] at he
             exact op_val rfl (wanted_none rfl) (by first | (go_simp; done) | (go_simp; rfl) | (simp [execOp, Act.eval, go_sem, *]; done) | (simp [execOp, Act.eval, go_sem, *]; rfl)) rfl (Pu.refl _)
           · intro a' w' hs hp he
             try simp [Is, Region.binds] at he
             exact op_val rfl (wanted_none rfl) (by first | (go_simp; done) | (go_simp; rfl) | (simp [execOp, Act.eval, go_sem, *]; done) | (simp [execOp, Act.eval, go_sem, *]; rfl)) rfl (Pu.refl _)
           · intro a' w' hs hp he
             try simp [Is, Region.binds] at he
             exact op_val rfl (wanted_none rfl) (by first | (go_simp; done) | (go_simp; rfl) | (simp [execOp, Act.eval, go_sem, *]; done) | (simp [execOp, Act.eval, go_sem, *]; rfl)) rfl (Pu.refl _)
           · intro a' w' hs hp he
             try simp [Is, Region.binds] at he
             exact op_val rfl (wanted_none rfl) (by first | (go_simp; done) | (go_simp; rfl) | (simp [execOp, Act.eval, go_sem, *]; done) | (simp [execOp, Act.eval, go_sem, *]; rfl)) rfl (Pu.refl _)
           · intro a' w' hs hp he
             try simp [Is, Region.binds] at he
             have c := (hrow.pu hp).byte ii hil; rw [HXX.out] at c; exact op_val rfl (wanted_none rfl) (by first | (go_simp; done) | (go_simp; rfl)) rfl (Pu.refl _)
           · intro a' w' hs hp he
             have e13 := hs 13 (by kernel_rfl)
             try simp [Is, Region.binds] at he
             exact op_val rfl (wanted_none rfl) (by first | (go_simp; done) | (go_simp; rfl) | (simp [execOp, Act.eval, go_sem, *]; done) | (simp [execOp, Act.eval, go_sem, *]; rfl)) rfl (Pu.refl _)
           · intro a' w' hs hp he
             try simp [Is, Region.binds] at he
             obtain ⟨d0, d2, d3, d5⟩ := HD.out _ hp; exact op_val rfl (wanted_none rfl) (by first | (go_simp; done) | (go_simp; rfl)) rfl (Pu.refl _)
           · intro a' w' hs hp he
             try simp [Is, Region.binds] at he
             exact op_val rfl (wanted_none rfl) (by first | (go_simp; done) | (go_simp; rfl) | (simp [execOp, Act.eval, go_sem, *]; done) | (simp [execOp, Act.eval, go_sem, *]; rfl)) rfl (Pu.refl _)
           · intro a' w' hs hp he
             try simp [Is, Region.binds] at he
             exact op_val rfl (wanted_none rfl) (by first | (go_simp; done) | (go_simp; rfl) | (simp [execOp, Act.eval, go_sem, *]; done) | (simp [execOp, Act.eval, go_sem, *]; rfl)) rfl (Pu.refl _)
         case hend =>
           intro a' w' hdef hsz hs hp hall
           obtain ⟨r0, r1, r2, r3, r4, r5, r6, r7, r8, r9, r10, r11, -⟩ := hall
           have hA := agree_done (agree_step (agree_step (agree_step (agree_step (agree_step (agree_step (agree_step (agree_step (agree_step (agree_step (agree_step (agree_step (agree_init [177, 178, 179, 180, 181, 182, 183, 184, 185, 186, 187, 188] hsz hs (by kernel_rfl)) r0) r1) r2) r3) r4) r5) r6) r7) r8) r9) r10) r11)
           have ha := act_of hA hdef
           rw [ha]
           clear ha hA hs hsz hdef r0 r1 r2 r3 r4 r5 r6 r7 r8 r9 r10 r11 
           (try simp only [List.setIfInBounds_toArray])
           (try dsimp only [List.set_cons_zero, List.set_cons_succ])
           (try simp only [Exit.then])
           have c := (hrow.pu hp).byte ii hil; have hf := (hrow.pu hp).frozen ii (by rw [cells_length]; omega)
           refine op_done rfl (wanted_none rfl) (by first | (go_simp; done) | (go_simp; rfl)) ?_
           (try simp only [Exit.inBlock, Exit.then])
           have hrw := (hrow.pu hp).set ii (.int .u8 (v.toNat : Int))
           rw [cells_set, HSET.out] at hrw
           have hcv := Row.conv (P := Tryz.prog) (cap := cp) (n := 32) 42 9 hrw HM2.out.symm Tryz.underlying42 Tryz.underlying5 Tryz.underlying9
           have hp9 := (hpu.trans hp).setCell (p := ⟨w6.heap.size, ii, none⟩) (Nat.le_refl _) (.int .u8 (v.toNat : Int))
           go_wp2_with fail
           go_meet
           exact ⟨4 :: m2, rfl, by have := HM2.out; simp; omega, hp6.trans hp9⟩
      case rest =>
        obtain ⟨b, rfl, hb, hpc⟩ := hcut
        have P6 := P5.pu hpc
        have hFx := fixedW 4 32 (by decide) (by decide) b (by omega) wc
        have hC := finishG P6.g (by omega) HGO.out (by omega) b (by omega)
        obtain ⟨fx, hfx⟩ : ∃ f, f = fixR 4 32 b := ⟨_, rfl⟩
        rw [← hfx] at hFx
        clear d0 d2 d3 d5 hr5 u0 u1
        by_cases hs0 : st = 1
        rotate_left
        · have e9 : finS sc pap st b = (false, 7, st) := by unfold finS; rw [if_pos hs0]
          rw [e9] at hC
          have s1 : ((st : Int) != 1) = true := by simp; omega
          have s2 : ¬ (st : Int) = 1 := by omega
          have hC' : Calls Tryz.prog 22 #[.pointer (some ⟨gb, 0, none⟩), S b] wc fun e w' => e = .returned (.tuple #[.agg #[S [], S []], .int .i64 ((finS sc pap st b).2.1 : Int)]) ∧ GuestAt w' gb nm sc na pap (finS sc pap st b).2.2 ∧ But gb wc w' := by rw [e9]; exact hC
          rw [e9] at hC'
          have HC := Lib.hid hC'
          have HFX := Lib.hid hFx
          clear hC hC' hFx e9 hfx
          as_aux_lemma =>
            go_wp2_with (first
              | (go_at_call 17; refine HFX.out.mono ?_; rintro e w6 ⟨rfl, rfl⟩)
              | (go_at_call 22; refine HC.out.mono ?_; rintro e w7 ⟨rfl, hg7, hb7⟩
                 have P7 := P6.but hg7 hb7)
              | (refine wpList_store_part rfl 44 (.tmp 23) (.tmp 201) rfl w7.heap.size 0 [S [], S []] (by rfl) (by rfl) (Row.newAt w7 w7.heap.size _ _ rfl rfl) hi4 (by simp) (by simp [Value.oneCell']) ?_; intro w8 hr8 hch8
                 have hp8 := hch8.below ((Pu.refl w7).alloc _) (Nat.le_refl _)
                 rw [splice_all (by rfl)] at hr8
                 have P8 := P7.pu hp8
                 clear hch8)
              | (refine wpList_store_part rfl 44 (.tmp 26) (.tmp 203) rfl w8.heap.size 0 [S [], S []] (by rfl) (by rfl) (Row.newAt w8 w8.heap.size _ _ rfl rfl) hi4 (by simp) (by simp [Value.oneCell']) ?_; intro w9 hrB hch9
                 have hp9 := hch9.below ((Pu.refl w8).alloc _) (Nat.le_refl _)
                 rw [splice_all (by rfl)] at hrB
                 have PE := P8.pu hp9
                 have hrA := hr8.pu hp9
                 obtain ⟨v0, v1⟩ := PE.cells
                 clear hch9)
              | (refine wpList_load_rowG rfl 44 (.tmp 23) rfl w7.heap.size [S [], S []] (by rfl) hrA Tryz.underlying44 rfl hi4 ?_)
              | (refine wpList_load_rowG rfl 44 (.tmp 26) rfl w8.heap.size [S [], S []] (by rfl) hrB Tryz.underlying44 rfl hi4 ?_)
              | (go_at_call 20; refine (stepG PE.g (by omega)).mono ?_; rintro e w10 ⟨rfl, rfl⟩)
              | (go_at_call 24; refine (helloG PE.g).mono ?_; rw [← HHEL.out]; rintro e w10 ⟨rfl, rfl⟩))
            go_roundw
            case rel => first | exact ⟨k + 1, st, pap, by omega, by go_num, rfl, rfl, hst, hpp, PE⟩ | ((repeat apply Exists.intro); exact ⟨⟨k + 1, st, pap, by omega, by go_num, rfl, rfl, hst, hpp, PE⟩, rfl⟩)
            case measure => simp [intOf]; omega
        have s1 : ((st : Int) != 1) = false := by simp; omega
        cases fx with
        | none =>
          have e9 : finS sc pap st b = (false, 2, st) := by unfold finS; rw [if_neg (by simp [hs0]), ← hfx]
          rw [e9] at hC
          clear hs0
          have hC' : Calls Tryz.prog 22 #[.pointer (some ⟨gb, 0, none⟩), S b] wc fun e w' => e = .returned (.tuple #[.agg #[S [], S []], .int .i64 ((finS sc pap st b).2.1 : Int)]) ∧ GuestAt w' gb nm sc na pap (finS sc pap st b).2.2 ∧ But gb wc w' := by rw [e9]; exact hC
          rw [e9] at hC'
          have HC := Lib.hid hC'
          have HFX := Lib.hid hFx
          clear hC hC' hFx e9 hfx
          as_aux_lemma =>
            go_wp2_with (first
              | (go_at_call 17; refine HFX.out.mono ?_; rintro e w6 ⟨rfl, rfl⟩)
              | (go_at_call 22; refine HC.out.mono ?_; rintro e w7 ⟨rfl, hg7, hb7⟩
                 have P7 := P6.but hg7 hb7)
              | (refine wpList_store_part rfl 44 (.tmp 23) (.tmp 201) rfl w7.heap.size 0 [S [], S []] (by rfl) (by rfl) (Row.newAt w7 w7.heap.size _ _ rfl rfl) hi4 (by simp) (by simp [Value.oneCell']) ?_; intro w8 hr8 hch8
                 have hp8 := hch8.below ((Pu.refl w7).alloc _) (Nat.le_refl _)
                 rw [splice_all (by rfl)] at hr8
                 have P8 := P7.pu hp8
                 clear hch8)
              | (refine wpList_store_part rfl 44 (.tmp 26) (.tmp 203) rfl w8.heap.size 0 [S [], S []] (by rfl) (by rfl) (Row.newAt w8 w8.heap.size _ _ rfl rfl) hi4 (by simp) (by simp [Value.oneCell']) ?_; intro w9 hrB hch9
                 have hp9 := hch9.below ((Pu.refl w8).alloc _) (Nat.le_refl _)
                 rw [splice_all (by rfl)] at hrB
                 have PE := P8.pu hp9
                 have hrA := hr8.pu hp9
                 obtain ⟨v0, v1⟩ := PE.cells
                 clear hch9)
              | (refine wpList_load_rowG rfl 44 (.tmp 23) rfl w7.heap.size [S [], S []] (by rfl) hrA Tryz.underlying44 rfl hi4 ?_)
              | (refine wpList_load_rowG rfl 44 (.tmp 26) rfl w8.heap.size [S [], S []] (by rfl) hrB Tryz.underlying44 rfl hi4 ?_)
              | (go_at_call 20; refine (stepG PE.g (by omega)).mono ?_; rintro e w10 ⟨rfl, rfl⟩)
              | (go_at_call 24; refine (helloG PE.g).mono ?_; rw [← HHEL.out]; rintro e w10 ⟨rfl, rfl⟩))
            go_roundw
            case rel => first | exact ⟨k + 1, st, pap, by omega, by go_num, rfl, rfl, hst, hpp, PE⟩ | ((repeat apply Exists.intro); exact ⟨⟨k + 1, st, pap, by omega, by go_num, rfl, rfl, hst, hpp, PE⟩, rfl⟩)
            case measure => simp [intOf]; omega
        | some m =>
          have hv : optV (some m) = m := rfl
          have hFi := fun w => refFinish sc pap (by omega) (by omega) w
          by_cases hmf : m = finishL sc pap
          rotate_left
          · have e9 : finS sc pap st b = (false, 3, st) := by unfold finS; rw [if_neg (by simp [hs0]), ← hfx]; simp only; rw [if_neg hmf]
            rw [e9] at hC
            obtain ⟨fi, hfi⟩ : ∃ x, x = finishL sc pap := ⟨_, rfl⟩
            rw [← hfi] at hFi hmf
            have hb1 : (m == fi) = false := by simpa using hmf
            have hb2 : ¬ bs m = bs fi := fun e => hmf (bs_inj e)
            have HFI := Lib.hid hFi
            clear hFi hfi hs0
            have hC' : Calls Tryz.prog 22 #[.pointer (some ⟨gb, 0, none⟩), S b] wc fun e w' => e = .returned (.tuple #[.agg #[S [], S []], .int .i64 ((finS sc pap st b).2.1 : Int)]) ∧ GuestAt w' gb nm sc na pap (finS sc pap st b).2.2 ∧ But gb wc w' := by rw [e9]; exact hC
            rw [e9] at hC'
            have HC := Lib.hid hC'
            have HFX := Lib.hid hFx
            clear hC hC' hFx e9 hfx
            as_aux_lemma =>
              go_wp2_with (first
                | (go_at_call 17; refine HFX.out.mono ?_; rintro e w6 ⟨rfl, rfl⟩)
                | (go_at_call 22; refine HC.out.mono ?_; rintro e w7 ⟨rfl, hg7, hb7⟩
                   have P7 := P6.but hg7 hb7)
                | (refine wpList_store_part rfl 44 (.tmp 23) (.tmp 201) rfl w7.heap.size 0 [S [], S []] (by rfl) (by rfl) (Row.newAt w7 w7.heap.size _ _ rfl rfl) hi4 (by simp) (by simp [Value.oneCell']) ?_; intro w8 hr8 hch8
                   have hp8 := hch8.below ((Pu.refl w7).alloc _) (Nat.le_refl _)
                   rw [splice_all (by rfl)] at hr8
                   have P8 := P7.pu hp8
                   clear hch8)
                | (refine wpList_store_part rfl 44 (.tmp 26) (.tmp 203) rfl w8.heap.size 0 [S [], S []] (by rfl) (by rfl) (Row.newAt w8 w8.heap.size _ _ rfl rfl) hi4 (by simp) (by simp [Value.oneCell']) ?_; intro w9 hrB hch9
                   have hp9 := hch9.below ((Pu.refl w8).alloc _) (Nat.le_refl _)
                   rw [splice_all (by rfl)] at hrB
                   have PE := P8.pu hp9
                   have hrA := hr8.pu hp9
                   obtain ⟨v0, v1⟩ := PE.cells
                   clear hch9)
                | (go_at_call 21; refine (HFI.out _).mono ?_; rintro e w10 ⟨rfl, hp10⟩
                   have PE := PE.pu hp10
                   have hrA := hrA.pu hp10
                   have hrB := hrB.pu hp10
                   obtain ⟨v0, v1⟩ := PE.cells)
                | (refine wpList_load_rowG rfl 44 (.tmp 23) rfl w7.heap.size [S [], S []] (by rfl) hrA Tryz.underlying44 rfl hi4 ?_)
                | (refine wpList_load_rowG rfl 44 (.tmp 26) rfl w8.heap.size [S [], S []] (by rfl) hrB Tryz.underlying44 rfl hi4 ?_)
                | (go_at_call 20; refine (stepG PE.g (by omega)).mono ?_; rintro e w10 ⟨rfl, rfl⟩)
                | (go_at_call 24; refine (helloG PE.g).mono ?_; rw [← HHEL.out]; rintro e w10 ⟨rfl, rfl⟩))
              go_roundw
              case rel => first | exact ⟨k + 1, st, pap, by omega, by go_num, rfl, rfl, hst, hpp, PE⟩ | ((repeat apply Exists.intro); exact ⟨⟨k + 1, st, pap, by omega, by go_num, rfl, rfl, hst, hpp, PE⟩, rfl⟩)
              case measure => simp [intOf]; omega
          have e9 : finS sc pap st b = (true, 0, 2) := by unfold finS; rw [if_neg (by simp [hs0]), ← hfx]; simp only; rw [if_pos hmf]
          rw [e9] at hC
          have hKe : ∀ w, Calls Tryz.prog 23 #[S sc, S pap] w fun e w' => e = .returned (.agg #[S (upL sc pap), S (downL sc pap)]) ∧ Pu w w' := fun w => refKeys sc pap (by omega) (by omega) w
          have hC1 : Calls Tryz.prog 22 #[.pointer (some ⟨gb, 0, none⟩), S b] wc fun e w' => e = .returned (.tuple #[.agg #[S (upL sc pap), S (downL sc pap)], .int .i64 ((true, (0 : Nat), (2 : Nat)).2.1 : Int)]) ∧ GuestAt w' gb nm sc na pap (true, (0 : Nat), (2 : Nat)).2.2 ∧ But gb wc w' := hC
          obtain ⟨up, hup⟩ : ∃ x, x = upL sc pap := ⟨_, rfl⟩
          obtain ⟨dn, hdn⟩ : ∃ x, x = downL sc pap := ⟨_, rfl⟩
          rw [← hup, ← hdn] at hKe hC1
          clear hC
          have hC := hC1
          subst hmf
          have HFI := Lib.hid hFi
          obtain ⟨fi, hfi⟩ : ∃ x, x = finishL sc pap := ⟨_, rfl⟩
          rw [← hfi] at hFi hv hFx
          have HFI := Lib.hid hFi
          have HKE := Lib.hid hKe
          clear hFi hfi hs0 hC1 hKe hup hdn
          have hC' : Calls Tryz.prog 22 #[.pointer (some ⟨gb, 0, none⟩), S b] wc fun e w' => e = .returned (.tuple #[.agg #[S up, S dn], .int .i64 ((finS sc pap st b).2.1 : Int)]) ∧ GuestAt w' gb nm sc na pap (finS sc pap st b).2.2 ∧ But gb wc w' := by rw [e9]; exact hC
          rw [e9] at hC'
          have HC := Lib.hid hC'
          have HFX := Lib.hid hFx
          clear hC hC' hFx e9 hfx
          as_aux_lemma =>
            go_wp2_with (first
              | (go_at_call 17; refine HFX.out.mono ?_; rintro e w6 ⟨rfl, rfl⟩)
              | (go_at_call 22; refine HC.out.mono ?_; rintro e w7 ⟨rfl, hg7, hb7⟩
                 have P7 := P6.but hg7 hb7)
              | (refine wpList_store_part rfl 44 (.tmp 23) (.tmp 201) rfl w7.heap.size 0 [S up, S dn] (by rfl) (by rfl) (Row.newAt w7 w7.heap.size _ _ rfl rfl) hi4 (by simp) (by simp [Value.oneCell']) ?_; intro w8 hr8 hch8
                 have hp8 := hch8.below ((Pu.refl w7).alloc _) (Nat.le_refl _)
                 rw [splice_all (by rfl)] at hr8
                 have P8 := P7.pu hp8
                 clear hch8)
              | (refine wpList_store_part rfl 44 (.tmp 26) (.tmp 203) rfl w8.heap.size 0 [S [], S []] (by rfl) (by rfl) (Row.newAt w8 w8.heap.size _ _ rfl rfl) hi4 (by simp) (by simp [Value.oneCell']) ?_; intro w9 hrB hch9
                 have hp9 := hch9.below ((Pu.refl w8).alloc _) (Nat.le_refl _)
                 rw [splice_all (by rfl)] at hrB
                 have PE := P8.pu hp9
                 have hrA := hr8.pu hp9
                 obtain ⟨v0, v1⟩ := PE.cells
                 clear hch9)
              | (go_at_call 21; refine (HFI.out _).mono ?_; rintro e w10 ⟨rfl, hp10⟩
                 have PE := PE.pu hp10
                 have hrA := hrA.pu hp10
                 have hrB := hrB.pu hp10
                 obtain ⟨v0, v1⟩ := PE.cells)
              | (go_at_call 23; refine (HKE.out _).mono ?_; rintro e w11 ⟨rfl, hp11⟩
                 have hrB := hrB.pu hp11)
              | (refine wpList_store_part rfl 44 (.tmp 26) (.tmp 207) rfl w8.heap.size 0 [S up, S dn] (by rfl) (by rfl) hrB hi4 (by simp) (by simp [Value.oneCell']) ?_; intro w12 hrC hch12
                 have hp812 : Pu w8 w12 := hch12.below (Pu.trans (Pu.trans hp9 hp10) hp11) (Nat.le_refl _)
                 rw [splice_all (by rfl)] at hrC
                 have hrB := hrC
                 have PE := P8.pu hp812
                 have hrA := hr8.pu hp812
                 clear hch12)
              | (refine wpList_load_rowG rfl 44 (.tmp 23) rfl w7.heap.size [S up, S dn] (by rfl) hrA Tryz.underlying44 rfl hi4 ?_)
              | (refine wpList_load_rowG rfl 44 (.tmp 26) rfl w8.heap.size [S up, S dn] (by rfl) hrB Tryz.underlying44 rfl hi4 ?_)
              | (go_at_call 20; refine (stepG PE.g (by omega)).mono ?_; rintro e w10 ⟨rfl, rfl⟩)
              | (go_at_call 24; refine (helloG PE.g).mono ?_; rw [← HHEL.out]; rintro e w10 ⟨rfl, rfl⟩))
            go_roundw
            case rel => first | exact ⟨k + 1, 2, pap, by omega, by go_num, rfl, rfl, by omega, hpp, PE⟩ | ((repeat apply Exists.intro); exact ⟨⟨k + 1, 2, pap, by omega, by go_num, rfl, rfl, by omega, hpp, PE⟩, rfl⟩)
            case measure => simp [intOf]; omega
theorem guestPlays_walk {w : World} (s0 : ByteArray) (_z0 : s0.size ≤ maxLen) (s1 : ByteArray) (_z1 : s1.size ≤ maxLen) (s2 : ByteArray) (_z2 : s2.size ≤ maxLen) (a : Option Addr) (len cap : Nat) (hz : IsOps w a len cap) :
    Calls Tryz.prog 3 #[.agg #[.string s0, .string s1], .string s2, .slice a len cap] w fun e w' => e = .returned (.bool true) ∧ Pu w w' := by
  obtain ⟨nm, rfl⟩ : ∃ a, s0 = bs a := ⟨_, bs_eta s0⟩
  obtain ⟨sc, rfl⟩ : ∃ a, s1 = bs a := ⟨_, bs_eta s1⟩
  obtain ⟨na, rfl⟩ : ∃ a, s2 = bs a := ⟨_, bs_eta s2⟩
  obtain ⟨L, hL, hlm⟩ := hz.ops
  by_cases h : len ≤ 20 ∧ nm.length ≤ 100 ∧ sc.length ≤ 100 ∧ na.length ≤ 60
  rotate_left
  · exact guest_few nm sc na a len cap h
  obtain ⟨h0, h1, h2, h3⟩ := h
  by_cases hg : guestOk nm sc na
  · exact guest_main nm sc na a len cap L hL h0 hg
  · exact guest_bad nm sc na a len cap h0 h1 h2 h3 hg
end Go.Proofs.YtlbdbmnkjljohaaGreat
