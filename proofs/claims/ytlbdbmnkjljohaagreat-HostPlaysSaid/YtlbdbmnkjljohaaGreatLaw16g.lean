/- Chapter 16: ShakeAgrees. -/
import Derived.Test.YtlbdbmnkjljohaaGreatT17
import Derived.Test.YtlbdbmnkjljohaaGreatRefUsers
set_option linter.unusedSimpArgs false
set_option linter.unusedVariables false
namespace Go.Proofs.YtlbdbmnkjljohaaGreat
open Go.RowKit Go.Esc
theorem index_ofU (a : Int) (L : Nat) (h0 : 0 < L) (h : L ≤ 100000) : ∃ i : Nat, ∃ r : Int, a.tmod L = r ∧ -(L : Int) < r ∧ r < L ∧ IntKind.i64.wrap (r + L) = r + L ∧ (r + L).tmod L = i ∧ i < L := by
  have hr1 : -(L : Int) < a.tmod L := Int.lt_tmod_of_pos a (by omega)
  have hr2 : a.tmod L < L := Int.tmod_lt_of_pos a (by omega)
  have h5 : 0 ≤ (a.tmod L + L) := by omega
  have h6 : (a.tmod L + (L : Int)).tmod L = (a.tmod L + L) % L := Int.tmod_eq_emod_of_nonneg h5
  have h7 := Int.emod_nonneg (a.tmod L + L) (show (L : Int) ≠ 0 by omega)
  have h8 := Int.emod_lt_of_pos (a.tmod L + L) (show (0 : Int) < L by omega)
  refine ⟨((a.tmod L + L) % L).toNat, _, rfl, hr1, hr2, by rw [IntKind.wrap_i64]; omega, ?_, by omega⟩
  rw [h6]; omega
theorem bnd64U {n : Int} (h : (Lit.int .i64 n).wf = true) : -9223372036854775808 ≤ n ∧ n ≤ 9223372036854775807 := by
  simp [Lit.wf, IntKind.min, IntKind.max, IntKind.signed, IntKind.bits] at h
  omega
theorem ownN_form {w : World} {B e s n : Nat} {v : Value} {xs : List Value} (h : w.ownsRow B e s v n xs) (hn : 0 < n) : ∃ g cap, v = .slice (some ⟨g, 0, none⟩) n cap ∧ Row w g e xs := by
  obtain ⟨hl, h⟩ := h
  rcases h with ⟨_, h0⟩ | ⟨g, cap, cur, rfl, _, hg, _, _, _, htake⟩
  · omega
  · exact ⟨g, cap, rfl, cur, (0,0), hg, by rw [hl]; exact htake, .inl rfl⟩
theorem posN_at {zs : List (Bs × Bs)} (h : goodUs zs) {i : Nat} (hi : i < zs.length) : posN (mkU zs) (zs[i]).1 = some i := by
  unfold posN mkU
  rw [List.findIdx?_map]
  rw [List.findIdx?_eq_some_iff_getElem]
  refine ⟨hi, by simp, fun j hj => ?_⟩
  have := h.2 j i (by omega) hi hj
  simpa using this
theorem mkU_get {zs : List (Bs × Bs)} {i : Nat} (hi : i < zs.length) : (mkU zs)[i]? = some ⟨(zs[i]).1, (zs[i]).2, 0, false, 0⟩ := by
  unfold mkU
  rw [List.getElem?_map, List.getElem?_eq_getElem hi]; rfl
theorem mkU_sec {zs : List (Bs × Bs)} (h : goodUs zs) {i : Nat} (hi : i < zs.length) : secV (mkU zs) (zs[i]).1 = some (zs[i]).2 := by
  unfold secV; rw [posN_at h hi]; simp [mkU_get hi]
theorem mkU_lock {zs : List (Bs × Bs)} (h : goodUs zs) {i : Nat} (hi : i < zs.length) (now : Int) : lockV (mkU zs) (zs[i]).1 now = false := by
  unfold lockV; rw [posN_at h hi]; simp [mkU_get hi, lockedS]
theorem mkU_good {zs : List (Bs × Bs)} (h : goodUs zs) {i : Nat} (hi : i < zs.length) : modN (mkU zs) (zs[i]).1 goodS = mkU zs := by
  unfold modN modU
  rw [posN_at h hi]
  simp only
  rw [mkU_get hi]
  simp only [goodS]
  apply List.ext_getElem?
  intro k
  rw [List.getElem?_set]
  split
  · next e =>
    subst e
    rw [if_pos (by simpa [mkU] using hi), mkU_get hi]
  · rfl
def IsPtrG (base : Nat) (name secret ng papers : Bs) (step : Nat) : Value → World → Prop := fun v w => ∃ g, v = .pointer (some ⟨g, 0, none⟩) ∧ (GuestAt w g name secret ng papers step ∧ base ≤ g)
instance (base : Nat) (name secret ng papers : Bs) (step : Nat) : Stable (IsPtrG base name secret ng papers step) := ⟨fun _ _ _ h hp => by obtain ⟨g, hv, hg, hb⟩ := h; exact ⟨g, hv, hg.pu hp, hb⟩⟩
def IsPtrH (base ub : Nat) (nh : Bs) (s : HSt) : Value → World → Prop := fun v w => ∃ g, v = .pointer (some ⟨g, 0, none⟩) ∧ (HostAt w g ub nh s ∧ base ≤ g)
instance (base ub : Nat) (nh : Bs) (s : HSt) : Stable (IsPtrH base ub nh s) := ⟨fun _ _ _ h hp => by obtain ⟨g, hv, hg, hb⟩ := h; exact ⟨g, hv, hg.pu hp, hb⟩⟩
theorem trioGotC {G : Nat → Prop} {w0 w : World} {ub gb hb : Nat} {nh : Bs} {l : List UserS} {s : HSt} {name secret ng papers : Bs} {step : Nat} (t : Trio G w0 w ub gb hb nh l s name secret ng papers step) (hn : nh.length = 16) (hl : ∀ u ∈ l, u.secret.length = 32) (hul : s.user.length ≤ 1000000) (hpl : s.papers.length ≤ 10000) (hgo : s.got ≤ 1000) (b : Bs) (hbl : b.length ≤ 10000) (now : Int) (n1 : -9223372036854775808 ≤ now) (n2 : now ≤ 9223372036854775807) :
    Calls Tryz.prog 30 #[.pointer (some ⟨hb, 0, none⟩), S b, .int .i64 now] w fun e w' => e = .returned (.tuple #[S (gotR nh l s b now).out, .int .i64 ((gotR nh l s b now).err : Int)]) ∧ Trio G w0 w' ub gb hb nh (gotR nh l s b now).l (gotR nh l s b now).st name secret ng papers step ∧ Cg (fun g => G g ∨ g = hb) w w' := by
  refine (gotW t.h t.u t.hn hn hl hul hpl hgo b hbl now n1 n2).mono ?_
  rintro e w' ⟨rfl, h1, h2, h3⟩
  refine ⟨rfl, ⟨h2, h1, h3.row (xs := guestC name secret ng papers step) t.g ?_, t.hn, t.gn, t.ne, t.lo, t.hl, t.gl, Cg.below t.since h3 ?_ t.since.size⟩, h3⟩
  · rintro (h | h)
    · exact t.gn h
    · exact t.ne h
  · rintro g (h | h)
    · exact t.lo g h
    · rw [h]; exact t.hl
set_option maxRecDepth 100000 in
set_option maxHeartbeats 3200000 in
theorem shakeAgrees_walk {w : World} (a0 : Option Addr) (len cap : Nat) (hz : IsPrs w a0 len cap) (k : Int) (hk : (Lit.int .i64 k).wf = true) (s2 : ByteArray) (z2 : s2.size ≤ maxLen) (s3 : ByteArray) (z3 : s3.size ≤ maxLen) (now : Int) (hnow : (Lit.int .i64 now).wf = true) :
    Calls Tryz.prog 4 #[.slice a0 len cap, .int .i64 k, .string s2, .string s3, .int .i64 now] w fun e w' => e = .returned (.bool true) ∧ Pu w w' := by
  obtain ⟨a, rfl⟩ : ∃ a, s2 = bs a := ⟨_, bs_eta s2⟩
  obtain ⟨b, rfl⟩ : ∃ a, s3 = bs a := ⟨_, bs_eta s3⟩
  obtain ⟨n1, n2⟩ := bnd64U hnow
  obtain ⟨L, hL, hlm⟩ := hz.prs
  clear z2 z3 hk hnow hz
  by_cases g0 : len = 0
  · subst g0
    go_enter Tryz.func4, Tryz.ntmps4
    go_wp2_with (go_at_call 12; refine (alive16 _).mono ?_; rintro e w1 ⟨rfl, hp1⟩)
    go_ret
    exact ⟨rfl, hp1⟩
  have q0 : ((len : Int) == 0) = false := by simp; omega
  by_cases g1 : 10 < len
  · have q1 : (10 : Int) < len := by omega
    go_enter Tryz.func4, Tryz.ntmps4
    go_wp2_with (go_at_call 12; refine (alive16 _).mono ?_; rintro e w1 ⟨rfl, hp1⟩)
    go_ret
    exact ⟨rfl, hp1⟩
  have q1 : ¬ (10 : Int) < len := by omega
  by_cases ha : 60 < a.length
  · have q4 : (60 : Int) < a.length := by omega
    go_enter Tryz.func4, Tryz.ntmps4
    go_wp2_with (go_at_call 12; refine (alive16 _).mono ?_; rintro e w1 ⟨rfl, hp1⟩)
    go_ret
    exact ⟨rfl, hp1⟩
  have q4 : ¬ (60 : Int) < a.length := by omega
  by_cases hb : 60 < b.length
  · have q5 : (60 : Int) < b.length := by omega
    go_enter Tryz.func4, Tryz.ntmps4
    go_wp2_with (go_at_call 12; refine (alive16 _).mono ?_; rintro e w1 ⟨rfl, hp1⟩)
    go_ret
    exact ⟨rfl, hp1⟩
  have q5 : ¬ (60 : Int) < b.length := by omega
  have hi2 : (Tryz.prog.info? 23).map (·.size) = some 2 := by kernel_rfl
  have hi4 : (Tryz.prog.info? 44).map (·.size) = some 2 := by kernel_rfl
  have hll := hL.length
  have hsmall : ∀ x ∈ tidyU L, x.1.length ≤ 9223372036854775807 := by
    intro x hx
    obtain ⟨y, hy, rfl⟩ := List.mem_map.1 hx
    have := (hL.small y hy).1
    unfold maxLen at this
    exact this
  have hzl := tidyU_length L
  obtain ⟨zs, hzs⟩ : ∃ z, z = tidyU L := ⟨_, rfl⟩
  rw [← hzs] at hsmall hzl
  have hzn : len = zs.length := by omega
  have HL := Lib.hid hL
  have HZS := Lib.hid hzs
  have HSM := Lib.hid hsmall
  have HZN := Lib.hid hzn
  clear hL hzs hsmall hll hzl
  by_cases hgood : goodUs zs
  rotate_left
  · have hg2 := Lib.hid hgood
    clear hgood hzn
    go_enter Tryz.func4, Tryz.ntmps4
    go_wp2_with (first
      | (go_at_call 12; refine (alive16 _).mono ?_; rintro e w1 ⟨rfl, hp1⟩)
      | (go_at_call 26; refine (tidy (HL.out.keep hp1) (by omega)).mono ?_; rw [← HZS.out]; rintro e w2 ⟨v, rfl, ho, hp2⟩; obtain ⟨g, cv, rfl, hrz⟩ := ownN_form ho (by omega))
      | (go_at_call 27; refine (refUsers zs HZN.out (by omega) (fun _ => ⟨g, rfl, hrz⟩) HSM.out).mono ?_; rintro e w3 ⟨bb, rfl, hbb, hp3⟩; obtain rfl : bb = false := (by cases bb with | false => rfl | true => exact absurd (hbb.1 rfl).1 hg2.out)))
    go_ret
    exact ⟨rfl, Pu.trans hp1 (Pu.trans hp2 hp3)⟩
  obtain ⟨i, r, e1, -, -, e2, e3, hi⟩ := index_ofU k len (by omega) (by omega)
  have hiz : i < zs.length := by omega
  have hub := hgood.1 _ (List.getElem_mem hiz)
  have hfa := flatU_at zs i hiz
  have hfl := flatU_length zs
  have hF2 := fun w => fillW a 16 (by omega) (by decide) w
  have hF3 := fun w => fillW b 16 (by omega) (by decide) w
  have hal := fillL_len a 16
  have hbl := fillL_len b 16
  obtain ⟨na, hnae⟩ : ∃ x, x = fillL a 16 := ⟨_, rfl⟩
  obtain ⟨nb, hnbe⟩ : ∃ x, x = fillL b 16 := ⟨_, rfl⟩
  rw [← hnae] at hF2 hal
  rw [← hnbe] at hF3 hbl
  have hsec := mkU_sec hgood hiz
  have hlk := mkU_lock hgood hiz now
  have hgd := mkU_good hgood hiz
  have hu := mkU_len hgood
  obtain ⟨nm, hnm⟩ : ∃ x, x = (zs[i]).1 := ⟨_, rfl⟩
  obtain ⟨sc, hsc⟩ : ∃ x, x = (zs[i]).2 := ⟨_, rfl⟩
  rw [← hnm, ← hsc] at hub hfa hsec
  rw [← hnm] at hlk hgd
  have hub2 := hub
  unfold userB at hub2
  simp at hub2
  have hnl := nameB_len hub2.1
  have hsl := hub2.2
  have hgo : guestOk nm sc na := ⟨hub, hal⟩
  have hNg := fun w => newGuest nm sc na hgo w
  have hNh := fun ub w => newHost ub nb hbl w
  obtain ⟨l, hl⟩ : ∃ l, l = mkU zs := ⟨_, rfl⟩
  have g1' := got_hello nb l nm na now hgo.hello
  have g2' := chal_ok sc (helloL nm na) nb hbl
  obtain ⟨pap, hpap⟩ : ∃ x, x = helloL nm na ++ chalL nb := ⟨_, rfl⟩
  have hhl : (helloL nm na).length = 2 + nm.length + 16 := by rw [helloL_length, hal]
  have hcl : (chalL nb).length = 17 := by simp [chalL, hbl]
  have hpl : pap.length = 2 + nm.length + 16 + 17 := by rw [hpap, List.length_append, hhl, hcl]
  rw [← hpap] at g1' g2'
  have g3' := got_proof nb l nm pap sc now (by rw [hl]; exact hsec) (by rw [hl]; exact hlk)
  rw [show modN l nm goodS = l by rw [hl]; exact hgd] at g3'
  have g4' := fin_ok sc pap
  have g5' : ∀ x, gotR nb l (hst2 nm pap sc) x now = ⟨[], 7, hst2 nm pap sc, l⟩ := fun x => by unfold gotR; rw [if_pos (.inr rfl)]
  have hke : keysO sc pap true = [S (upL sc pap), S (downL sc pap)] := rfl
  have hst : hst2 nm pap sc = ⟨2, false, nm, pap, true, upL sc pap, downL sc pap⟩ := rfl
  obtain ⟨up, hup⟩ : ∃ x, x = upL sc pap := ⟨_, rfl⟩
  obtain ⟨dn, hdn⟩ : ∃ x, x = downL sc pap := ⟨_, rfl⟩
  rw [← hup, ← hdn] at hke hst
  have hprl : (3 :: proofL sc pap).length = 33 := by simp [proofL_length]
  have hfil : (4 :: finishL sc pap).length = 33 := by simp [finishL_length]
  obtain ⟨pr, hpr⟩ : ∃ x, x = 3 :: proofL sc pap := ⟨_, rfl⟩
  obtain ⟨fi, hfi⟩ : ∃ x, x = 4 :: finishL sc pap := ⟨_, rfl⟩
  obtain ⟨hel, hhel⟩ : ∃ x, x = helloL nm na := ⟨_, rfl⟩
  obtain ⟨c, hce⟩ : ∃ x, x = chalL nb := ⟨_, rfl⟩
  rw [← hce] at g1' g2' hcl
  rw [← hpr] at g2' g3' hprl
  rw [← hfi] at g3' g4' hfil
  rw [← hhel] at g1' g2' hhl
  rw [← hl] at hu
  have G1 := Lib.hid g1'
  have G2 := Lib.hid g2'
  have G3 := Lib.hid g3'
  have G4 := Lib.hid g4'
  have G5 := Lib.hid (g5' pr)
  have HF2 := Lib.hid hF2
  have HF3 := Lib.hid hF3
  have HNG := Lib.hid hNg
  have HNH := Lib.hid hNh
  have HHEL := Lib.hid hhel
  have HU := Lib.hid hu
  have HKE := Lib.hid hke
  have HST := Lib.hid hst
  have HGO := Lib.hid hgo
  have HGD := Lib.hid hgood
  have HFA := Lib.hid hfa
  have HFL := Lib.hid hfl
  have HLL := Lib.hid hl
  have HPL := Lib.hid hpl
  have HHL := Lib.hid hhl
  have T1 := Lib.hid True.intro
  have T2 := Lib.hid True.intro
  have k0 : (0 : Int) ≤ i := by omega
  have k1 : (i : Int) < len := by omega
  clear g1' g2' g3' g4' g5' hF2 hF3 hNg hNh hhel hu hke hst hgo hgood hfa hfl hl hpl hhl hsec hlk hgd hub hub2 hnm hsc hpap hup hdn hpr hfi hce hnae hnbe hzn
  go_enter Tryz.func4, Tryz.ntmps4
  go_wp2_with (first
    | (go_at_call 12; refine (alive16 _).mono ?_; rintro e w1 ⟨rfl, hp1⟩)
    | (go_at_call 26; refine (tidy (HL.out.keep hp1) (by omega)).mono ?_; rw [← HZS.out]; rintro e w2 ⟨v, rfl, ho, hp2⟩; obtain ⟨g, cv, rfl, hrz⟩ := ownN_form ho (by omega))
    | (go_at_call 27; refine (refUsers zs HZN.out (by omega) (fun _ => ⟨g, rfl, hrz⟩) HSM.out).mono ?_; rintro e w3 ⟨bb, rfl, hbb, hp3⟩; obtain rfl : bb = true := hbb.2 ⟨HGD.out, by have := HZN.out; omega⟩
       clear hbb
       have hrz3 := hrz.pu hp3)
    | (refine wpList_load_part rfl 23 (.tmp 65) rfl g (i*2) 2 (by rfl) hrz3 Tryz.underlying23 rfl hi2 (by rw [HFL.out]; omega) ?_; rw [HFA.out])
    | (refine wpList_store_part rfl 23 (.tmp 11) (.tmp 66) rfl w3.heap.size 0 [S nm, S sc] (by rfl) (by rfl) (Row.newAt w3 w3.heap.size _ _ rfl rfl) hi2 (by simp) (by simp [Value.oneCell']) ?_; intro w4 hr4 hch4
       have hp4 : Pu w3 w4 := hch4.below ((Pu.refl w3).alloc _) (Nat.le_refl _)
       rw [splice_all (by rfl)] at hr4
       have hrz4 := hrz3.pu hp4
       clear hch4)
    | (go_at_call 28; refine (newUsers zs HZN.out (by omega) (fun _ => ⟨g, rfl, hrz4⟩) HGD.out).mono ?_; rw [← HLL.out]; rintro e w5 ⟨ub, rfl, hu5, hp5⟩))
  have hl5 := fun w' (hp : Pu w5 w') => (hr4.pu (Pu.trans hp5 hp)).load (P := Tryz.prog) 23 0 2 Tryz.underlying23 rfl hi2 (by simp)
  have hc5 := fun w' (hp : Pu w5 w') => (hr4.pu (Pu.trans hp5 hp)).cell 0 (by simp)
  simp at hc5
  have HL5 := Lib.hid hl5
  have HC5 := Lib.hid hc5
  have HU5 := Lib.hid hu5
  have hs5 := hp5.size
  have HP04 := Lib.hid (show Pu w w4 from Pu.trans hp1 (Pu.trans hp2 (Pu.trans hp3 hp4)))
  have HP5 := Lib.hid hp5
  have HR4 := Lib.hid hr4
  clear hl5 hc5 hu5 hr4 hrz4 hrz3 hrz ho hp1 hp2 hp3 hp4
  apply region_pu (Φs := (Is _ :: Is _ :: Is _ :: IsPtrG w5.heap.size nm sc na [] 0 :: Is _ :: Is _ :: Is _ :: IsPtrH w5.heap.size ub nb hst0 :: IsPtrG w5.heap.size nm sc na [] 0 :: IsPtrH w5.heap.size ub nb hst0 :: [])) (hm := by kernel_rfl) (hE := by kernel_rfl) (hD := by kernel_rfl) (hsize := by kernel_rfl)
  case hop =>
    refine ⟨?_, ?_, ?_, ?_, ?_, ?_, ?_, ?_, ?_, ?_, trivial⟩
    · intro a' w' hs hp he
      have e11 := hs 11 (by kernel_rfl)
      try simp [Is, Region.binds] at he
      have hl := HL5.out _ hp; exact op_load rfl rfl 23 (.tmp 11) rfl ⟨w3.heap.size, 0, none⟩ (by first | exact e11 | (simpa [Act.eval] using e11)) hl rfl
    · intro a' w' hs hp he
      have e2 := hs 2 (by kernel_rfl)
      try simp [Is, Region.binds] at he
      exact op_val rfl (wanted_none rfl) (by first | (go_simp; done) | (go_simp; rfl) | (simp [execOp, Act.eval, go_sem, *]; done) | (simp [execOp, Act.eval, go_sem, *]; rfl)) rfl (Pu.refl _)
    · intro a' w' hs hp he
      try simp [Is, Region.binds] at he
      exact op_callP ((HF2.out _).mono (by rintro e w' ⟨rfl, rfl⟩; exact ⟨rfl, Pu.refl _⟩)) rfl (wanted_none rfl) (by first | (go_simp; done) | (go_simp; rfl)) (fun _ => rfl)
    · intro a' w' hs hp he
      try simp [Is, Region.binds] at he
      have hsz := hp.size; exact op_call rfl (wanted_none rfl) (by first | (go_simp; done) | (go_simp; rfl)) ((HNG.out _).mono (by rintro e w'' ⟨gb, rfl, hg, hgl, hpp⟩; exact ⟨_, rfl, ⟨gb, rfl, hg, Nat.le_trans hsz hgl⟩, hpp⟩))
    · intro a' w' hs hp he
      have e12 := hs 12 (by kernel_rfl)
      try simp [Is, Region.binds] at he
      exact op_val rfl (wanted_none rfl) (by first | (go_simp; done) | (go_simp; rfl) | (simp [execOp, Act.eval, go_sem, *]; done) | (simp [execOp, Act.eval, go_sem, *]; rfl)) rfl (Pu.refl _)
    · intro a' w' hs hp he
      have e3 := hs 3 (by kernel_rfl)
      try simp [Is, Region.binds] at he
      exact op_val rfl (wanted_none rfl) (by first | (go_simp; done) | (go_simp; rfl) | (simp [execOp, Act.eval, go_sem, *]; done) | (simp [execOp, Act.eval, go_sem, *]; rfl)) rfl (Pu.refl _)
    · intro a' w' hs hp he
      try simp [Is, Region.binds] at he
      exact op_callP ((HF3.out _).mono (by rintro e w' ⟨rfl, rfl⟩; exact ⟨rfl, Pu.refl _⟩)) rfl (wanted_none rfl) (by first | (go_simp; done) | (go_simp; rfl)) (fun _ => rfl)
    · intro a' w' hs hp he
      try simp [Is, Region.binds] at he
      have hsz := hp.size; exact op_call rfl (wanted_none rfl) (by first | (go_simp; done) | (go_simp; rfl)) ((HNH.out ub _).mono (by rintro e w'' ⟨hb, rfl, hh, hhl, hpp⟩; exact ⟨_, rfl, ⟨hb, rfl, hh, Nat.le_trans hsz hhl⟩, hpp⟩))
    · intro a' w' hs hp he
      try simp [Is, Region.binds] at he
      obtain ⟨⟨gb, hv, hg⟩, -⟩ := he; exact op_val rfl (wanted_none rfl) (by first | (go_simp; done) | (go_simp; rfl)) ⟨gb, rfl, hg⟩ (Pu.refl _)
    · intro a' w' hs hp he
      try simp [Is, Region.binds] at he
      obtain ⟨⟨gb, hv, hg⟩, -⟩ := he; exact op_val rfl (wanted_none rfl) (by first | (go_simp; done) | (go_simp; rfl)) ⟨gb, rfl, hg⟩ (Pu.refl _)
  case hend =>
    intro a' w' hdef hsz hs hp hall
    obtain ⟨r0, r1, r2, r3, r4, r5, r6, r7, r8, r9, -⟩ := hall
    obtain ⟨g3, rv3, row3⟩ := r3
    obtain ⟨g7, rv7, row7⟩ := r7
    obtain ⟨g8, rv8, row8⟩ := r8
    obtain ⟨g9, rv9, row9⟩ := r9
    have hA := agree_done (agree_step (agree_step (agree_step (agree_step (agree_step (agree_step (agree_step (agree_step (agree_step (agree_step (agree_init [72, 73, 74, 75, 76, 77, 78, 79, 14, 15] hsz hs (by kernel_rfl)) r0) r1) r2) rv3) r4) r5) r6) rv7) rv8) rv9)
    have ha := act_of hA hdef
    rw [ha]
    clear ha hA hs hsz hdef r0 r1 r2 r4 r5 r6 rv3 rv7 rv8 rv9
    (try simp only [List.setIfInBounds_toArray])
    (try dsimp only [List.set_cons_zero, List.set_cons_succ])
    (try simp only [Exit.then])
    have t6 : Trio (Nw w4.heap.size w5) w4 w' ub g8 g9 nb l hst0 nm sc na [] 0 := ⟨HU5.out.pu hp, row9.1, row8.1, fun h => by have := h.2; have := row9.2; omega, fun h => by have := h.2; have := row8.2; omega, rowNe row8.1 row9.1 (by decide), fun x hx => hx.1, by have := row9.2; omega, by have := row8.2; omega, HP5.out.trans hp⟩
    have HC6 := Lib.hid (fun w2 (hp2 : Pu w' w2) => HC5.out _ (hp.trans hp2))
    clear hp row8 row9 HC5 HL5 HU5
    rename World => w6
    simp only [Option.isSome_some, if_true]
    go_wp2_with (first
      | (go_at_call 24; refine (helloG t6.g).mono ?_; rw [← HHEL.out]; rintro e w7 ⟨rfl, rfl⟩)
      | (go_at_call 30; clear T1; refine (trioGot t6 hbl HU.out (by decide) (by decide) (by decide) hel (by rw [HHL.out]; omega) now n1 n2).mono ?_; rw [G1.out]; rintro e w8 ⟨rfl, t8⟩)
      | (go_at_call 18; refine (trioChal t8 (by decide) HGO.out c (by omega)).mono ?_; rw [← HHEL.out, G2.out]; rintro e w9 ⟨rfl, t9⟩)
      | (go_at_call 30; clear T2; refine (trioGot t9 hbl HU.out (by show List.length nm ≤ 1000000; omega) (by show List.length pap ≤ 10000; rw [HPL.out]; omega) (by show (1 : Nat) ≤ 1000; omega) pr (by omega) now n1 n2).mono ?_; rw [G3.out]; rintro e w10 ⟨rfl, t10⟩)
      | (go_at_call 22; refine (trioFin t10 (by omega) HGO.out (by rw [HPL.out]; omega) fi (by omega)).mono ?_; rw [G4.out]; simp only; rw [HKE.out]; rintro e w11 ⟨rfl, t11⟩)
      | (refine wpList_store_part rfl 44 (.tmp 22) (.tmp 111) rfl w11.heap.size 0 [S up, S dn] (by rfl) (by rfl) (Row.newAt w11 w11.heap.size _ _ rfl rfl) hi4 (by simp) (by simp [Value.oneCell']) ?_; intro w12 hr12 hch12
         have hp12 : Pu w11 w12 := hch12.below ((Pu.refl w11).alloc _) (Nat.le_refl _)
         rw [splice_all (by rfl)] at hr12
         have t12 := t11.pu hp12
         clear hch12)
      | (go_at_call 30; refine (trioGotC t12 hbl HU.out (by show List.length nm ≤ 1000000; omega) (by show List.length pap ≤ 10000; rw [HPL.out]; omega) (by show (2 : Nat) ≤ 1000; omega) pr (by omega) now n1 n2).mono ?_; rw [G5.out]; rintro e w13 ⟨rfl, t13, hc13⟩
         have hr13 := hc13.row hr12 (fun h => by
           have ht := t11.u.dom
           have hh := Row.lt (xs := hostC ub nb _) t11.h
           rcases h with h | h
           · exact absurd (ht _ h) (Nat.lt_irrefl _)
           · omega)))
    rw [HST.out] at t13
    have hrm := HR4.out.pu t13.since
    have hl13 := fun w' (hp : Pu w13 w') => (hr13.pu hp).load (P := Tryz.prog) 44 0 2 Tryz.underlying44 rfl hi4 (by simp)
    have hc13' := fun w' (hp : Pu w13 w') => (hrm.pu hp).cell 0 (by simp)
    simp at hc13'
    have HL13 := Lib.hid hl13
    have HC13 := Lib.hid hc13'
    clear hl13 hc13' hr13 hr12 hrm hc13 t12 t11 t10 t9 t8 t6
    apply region_pu (Φs := (Is _ :: Is _ :: Is _ :: Is _ :: Is _ :: Is _ :: Is _ :: Is _ :: Is _ :: Is _ :: Is _ :: Is _ :: Is _ :: Is _ :: Is _ :: Is _ :: Is _ :: Is _ :: Is _ :: Is _ :: Is _ :: Is _ :: Is _ :: Is _ :: Is _ :: Is _ :: Is _ :: Is _ :: Is _ :: Is _ :: Is _ :: Is _ :: Is _ :: Is _ :: Is _ :: Is _ :: Is _ :: Is _ :: Is _ :: Is _ :: [])) (hm := by kernel_rfl) (hE := by kernel_rfl) (hD := by kernel_rfl) (hsize := by kernel_rfl)
    case hop =>
      refine ⟨?_, ?_, ?_, ?_, ?_, ?_, ?_, ?_, ?_, ?_, ?_, ?_, ?_, ?_, ?_, ?_, ?_, ?_, ?_, ?_, ?_, ?_, ?_, ?_, ?_, ?_, ?_, ?_, ?_, ?_, ?_, ?_, ?_, ?_, ?_, ?_, ?_, ?_, ?_, ?_, trivial⟩
      · intro a' w' hs hp he
        have e17 := hs 17 (by kernel_rfl)
        try simp [Is, Region.binds] at he
        exact op_val rfl (wanted_none rfl) (by first | (go_simp; done) | (go_simp; rfl) | (simp [execOp, Act.eval, go_sem, *]; done) | (simp [execOp, Act.eval, go_sem, *]; rfl)) rfl (Pu.refl _)
      · intro a' w' hs hp he
        try simp [Is, Region.binds] at he
        exact op_val rfl (wanted_none rfl) (by first | (go_simp; done) | (go_simp; rfl) | (simp [execOp, Act.eval, go_sem, *]; done) | (simp [execOp, Act.eval, go_sem, *]; rfl)) rfl (Pu.refl _)
      · intro a' w' hs hp he
        try simp [Is, Region.binds] at he
        exact op_val rfl (wanted_none rfl) (by first | (go_simp; done) | (go_simp; rfl) | (simp [execOp, Act.eval, go_sem, *]; done) | (simp [execOp, Act.eval, go_sem, *]; rfl)) rfl (Pu.refl _)
      · intro a' w' hs hp he
        have e19 := hs 19 (by kernel_rfl)
        try simp [Is, Region.binds] at he
        first | exact op_skip rfl ((wanted_some rfl rfl (by first | (simp [he]; done) | (simp [he]; rfl))).trans rfl) rfl | exact op_val rfl ((wanted_some rfl rfl (by first | (simp [he]; done) | (simp [he]; rfl))).trans rfl) (by first | (go_simp; done) | (go_simp; rfl) | (simp [execOp, Act.eval, go_sem, *]; done) | (simp [execOp, Act.eval, go_sem, *]; rfl)) rfl (Pu.refl _)
      · intro a' w' hs hp he
        try simp [Is, Region.binds] at he
        first | exact op_skip rfl ((wanted_some rfl rfl (by first | (simp [he]; done) | (simp [he]; rfl))).trans rfl) rfl | exact op_val rfl ((wanted_some rfl rfl (by first | (simp [he]; done) | (simp [he]; rfl))).trans rfl) (by first | (go_simp; done) | (go_simp; rfl) | (simp [execOp, Act.eval, go_sem, *]; done) | (simp [execOp, Act.eval, go_sem, *]; rfl)) rfl (Pu.refl _)
      · intro a' w' hs hp he
        try simp [Is, Region.binds] at he
        exact op_val rfl (wanted_none rfl) (by first | (go_simp; done) | (go_simp; rfl) | (simp [execOp, Act.eval, go_sem, *]; done) | (simp [execOp, Act.eval, go_sem, *]; rfl)) rfl (Pu.refl _)
      · intro a' w' hs hp he
        try simp [Is, Region.binds] at he
        exact op_val rfl (wanted_none rfl) (by first | (go_simp; done) | (go_simp; rfl) | (simp [execOp, Act.eval, go_sem, *]; done) | (simp [execOp, Act.eval, go_sem, *]; rfl)) rfl (Pu.refl _)
      · intro a' w' hs hp he
        have e21 := hs 21 (by kernel_rfl)
        try simp [Is, Region.binds] at he
        first | exact op_skip rfl ((wanted_some rfl rfl (by first | (simp [he]; done) | (simp [he]; rfl))).trans rfl) rfl | exact op_val rfl ((wanted_some rfl rfl (by first | (simp [he]; done) | (simp [he]; rfl))).trans rfl) (by first | (go_simp; done) | (go_simp; rfl) | (simp [execOp, Act.eval, go_sem, *]; done) | (simp [execOp, Act.eval, go_sem, *]; rfl)) rfl (Pu.refl _)
      · intro a' w' hs hp he
        try simp [Is, Region.binds] at he
        first | exact op_skip rfl ((wanted_some rfl rfl (by first | (simp [he]; done) | (simp [he]; rfl))).trans rfl) rfl | exact op_val rfl ((wanted_some rfl rfl (by first | (simp [he]; done) | (simp [he]; rfl))).trans rfl) (by first | (go_simp; done) | (go_simp; rfl) | (simp [execOp, Act.eval, go_sem, *]; done) | (simp [execOp, Act.eval, go_sem, *]; rfl)) rfl (Pu.refl _)
      · intro a' w' hs hp he
        try simp [Is, Region.binds] at he
        exact op_val rfl (wanted_none rfl) (by first | (go_simp; done) | (go_simp; rfl) | (simp [execOp, Act.eval, go_sem, *]; done) | (simp [execOp, Act.eval, go_sem, *]; rfl)) rfl (Pu.refl _)
      · intro a' w' hs hp he
        try simp [Is, Region.binds] at he
        exact op_val rfl (wanted_none rfl) (by first | (go_simp; done) | (go_simp; rfl) | (simp [execOp, Act.eval, go_sem, *]; done) | (simp [execOp, Act.eval, go_sem, *]; rfl)) rfl (Pu.refl _)
      · intro a' w' hs hp he
        have e23 := hs 23 (by kernel_rfl)
        try simp [Is, Region.binds] at he
        first | exact op_skip rfl ((wanted_some rfl rfl (by first | (simp [he]; done) | (simp [he]; rfl))).trans rfl) rfl | exact op_val rfl ((wanted_some rfl rfl (by first | (simp [he]; done) | (simp [he]; rfl))).trans rfl) (by first | (go_simp; done) | (go_simp; rfl) | (simp [execOp, Act.eval, go_sem, *]; done) | (simp [execOp, Act.eval, go_sem, *]; rfl)) rfl (Pu.refl _)
      · intro a' w' hs hp he
        try simp [Is, Region.binds] at he
        first | exact op_skip rfl ((wanted_some rfl rfl (by first | (simp [he]; done) | (simp [he]; rfl))).trans rfl) rfl | exact op_val rfl ((wanted_some rfl rfl (by first | (simp [he]; done) | (simp [he]; rfl))).trans rfl) (by first | (go_simp; done) | (go_simp; rfl) | (simp [execOp, Act.eval, go_sem, *]; done) | (simp [execOp, Act.eval, go_sem, *]; rfl)) rfl (Pu.refl _)
      · intro a' w' hs hp he
        try simp [Is, Region.binds] at he
        exact op_val rfl (wanted_none rfl) (by first | (go_simp; done) | (go_simp; rfl) | (simp [execOp, Act.eval, go_sem, *]; done) | (simp [execOp, Act.eval, go_sem, *]; rfl)) rfl (Pu.refl _)
      · intro a' w' hs hp he
        try simp [Is, Region.binds] at he
        exact op_val rfl (wanted_none rfl) (by first | (go_simp; done) | (go_simp; rfl) | (simp [execOp, Act.eval, go_sem, *]; done) | (simp [execOp, Act.eval, go_sem, *]; rfl)) rfl (Pu.refl _)
      · intro a' w' hs hp he
        have e15 := hs 15 (by kernel_rfl)
        try simp [Is, Region.binds] at he
        first | exact op_skip rfl ((wanted_some rfl rfl (by first | (simp [he]; done) | (simp [he]; rfl))).trans rfl) rfl | exact op_val rfl ((wanted_some rfl rfl (by first | (simp [he]; done) | (simp [he]; rfl))).trans rfl) (by first | (go_simp; done) | (go_simp; rfl) | (simp [execOp, Act.eval, go_sem, *]; done) | (simp [execOp, Act.eval, go_sem, *]; rfl)) rfl (Pu.refl _)
      · intro a' w' hs hp he
        try simp [Is, Region.binds] at he
        exact op_callP ((doneW (t13.pu hp).h).mono (by rintro e w' ⟨rfl, rfl⟩; exact ⟨rfl, Pu.refl _⟩)) rfl ((wanted_some rfl rfl (by first | (simp [he]; done) | (simp [he]; rfl))).trans rfl) (by first | (go_simp; done) | (go_simp; rfl)) (fun _ => rfl)
      · intro a' w' hs hp he
        try simp [Is, Region.binds] at he
        exact op_val rfl (wanted_none rfl) (by first | (go_simp; done) | (go_simp; rfl) | (simp [execOp, Act.eval, go_sem, *]; done) | (simp [execOp, Act.eval, go_sem, *]; rfl)) rfl (Pu.refl _)
      · intro a' w' hs hp he
        try simp [Is, Region.binds] at he
        exact op_val rfl (wanted_none rfl) (by first | (go_simp; done) | (go_simp; rfl) | (simp [execOp, Act.eval, go_sem, *]; done) | (simp [execOp, Act.eval, go_sem, *]; rfl)) rfl (Pu.refl _)
      · intro a' w' hs hp he
        have e15 := hs 15 (by kernel_rfl)
        try simp [Is, Region.binds] at he
        first | exact op_skip rfl ((wanted_some rfl rfl (by first | (simp [he]; done) | (simp [he]; rfl))).trans rfl) rfl | exact op_val rfl ((wanted_some rfl rfl (by first | (simp [he]; done) | (simp [he]; rfl))).trans rfl) (by first | (go_simp; done) | (go_simp; rfl) | (simp [execOp, Act.eval, go_sem, *]; done) | (simp [execOp, Act.eval, go_sem, *]; rfl)) rfl (Pu.refl _)
      · intro a' w' hs hp he
        try simp [Is, Region.binds] at he
        exact op_callP ((userW (t13.pu hp).h).mono (by rintro e w' ⟨rfl, rfl⟩; exact ⟨rfl, Pu.refl _⟩)) rfl ((wanted_some rfl rfl (by first | (simp [he]; done) | (simp [he]; rfl))).trans rfl) (by first | (go_simp; done) | (go_simp; rfl)) (fun _ => rfl)
      · intro a' w' hs hp he
        have e11 := hs 11 (by kernel_rfl)
        try simp [Is, Region.binds] at he
        first | exact op_skip rfl ((wanted_some rfl rfl (by first | (simp [he]; done) | (simp [he]; rfl))).trans rfl) rfl | exact op_val rfl ((wanted_some rfl rfl (by first | (simp [he]; done) | (simp [he]; rfl))).trans rfl) (by first | (go_simp; done) | (go_simp; rfl) | (simp [execOp, Act.eval, go_sem, *]; done) | (simp [execOp, Act.eval, go_sem, *]; rfl)) rfl (Pu.refl _)
      · intro a' w' hs hp he
        try simp [Is, Region.binds] at he
        have hc := HC13.out _ hp; exact op_val rfl ((wanted_some rfl rfl (by first | (simp [he]; done) | (simp [he]; rfl))).trans rfl) (by first | (go_simp; done) | (go_simp; rfl)) rfl (Pu.refl _)
      · intro a' w' hs hp he
        try simp [Is, Region.binds] at he
        first | exact op_skip rfl ((wanted_some rfl rfl (by first | (simp [he]; done) | (simp [he]; rfl))).trans rfl) rfl | exact op_val rfl ((wanted_some rfl rfl (by first | (simp [he]; done) | (simp [he]; rfl))).trans rfl) (by first | (go_simp; done) | (go_simp; rfl) | (simp [execOp, Act.eval, go_sem, *]; done) | (simp [execOp, Act.eval, go_sem, *]; rfl)) rfl (Pu.refl _)
      · intro a' w' hs hp he
        try simp [Is, Region.binds] at he
        exact op_val rfl (wanted_none rfl) (by first | (go_simp; done) | (go_simp; rfl) | (simp [execOp, Act.eval, go_sem, *]; done) | (simp [execOp, Act.eval, go_sem, *]; rfl)) rfl (Pu.refl _)
      · intro a' w' hs hp he
        try simp [Is, Region.binds] at he
        exact op_val rfl (wanted_none rfl) (by first | (go_simp; done) | (go_simp; rfl) | (simp [execOp, Act.eval, go_sem, *]; done) | (simp [execOp, Act.eval, go_sem, *]; rfl)) rfl (Pu.refl _)
      · intro a' w' hs hp he
        have e22 := hs 22 (by kernel_rfl)
        try simp [Is, Region.binds] at he
        have hl := HL13.out _ hp; exact op_loadG rfl ((wanted_some rfl rfl (by first | (simp [he]; done) | (simp [he]; rfl))).trans rfl) 44 (.tmp 22) rfl ⟨w11.heap.size, 0, none⟩ (by first | exact e22 | (simpa [Act.eval] using e22)) hl rfl
      · intro a' w' hs hp he
        have e15 := hs 15 (by kernel_rfl)
        try simp [Is, Region.binds] at he
        first | exact op_skip rfl ((wanted_some rfl rfl (by first | (simp [he]; done) | (simp [he]; rfl))).trans rfl) rfl | exact op_val rfl ((wanted_some rfl rfl (by first | (simp [he]; done) | (simp [he]; rfl))).trans rfl) (by first | (go_simp; done) | (go_simp; rfl) | (simp [execOp, Act.eval, go_sem, *]; done) | (simp [execOp, Act.eval, go_sem, *]; rfl)) rfl (Pu.refl _)
      · intro a' w' hs hp he
        try simp [Is, Region.binds] at he
        exact op_callP (hostKeys (t13.pu hp).h) rfl ((wanted_some rfl rfl (by first | (simp [he]; done) | (simp [he]; rfl))).trans rfl) (by first | (go_simp; done) | (go_simp; rfl)) (fun _ => rfl)
      · intro a' w' hs hp he
        try simp [Is, Region.binds] at he
        first | exact op_skip rfl ((wanted_some rfl rfl (by first | (simp [he]; done) | (simp [he]; rfl))).trans rfl) rfl | exact op_val rfl ((wanted_some rfl rfl (by first | (simp [he]; done) | (simp [he]; rfl))).trans rfl) (by first | (go_simp; done) | (go_simp; rfl) | (simp [execOp, Act.eval, go_sem, *]; done) | (simp [execOp, Act.eval, go_sem, *]; rfl)) rfl (Pu.refl _)
      · intro a' w' hs hp he
        try simp [Is, Region.binds] at he
        exact op_val rfl (wanted_none rfl) (by first | (go_simp; done) | (go_simp; rfl) | (simp [execOp, Act.eval, go_sem, *]; done) | (simp [execOp, Act.eval, go_sem, *]; rfl)) rfl (Pu.refl _)
      · intro a' w' hs hp he
        try simp [Is, Region.binds] at he
        exact op_val rfl (wanted_none rfl) (by first | (go_simp; done) | (go_simp; rfl) | (simp [execOp, Act.eval, go_sem, *]; done) | (simp [execOp, Act.eval, go_sem, *]; rfl)) rfl (Pu.refl _)
      · intro a' w' hs hp he
        have e25 := hs 25 (by kernel_rfl)
        try simp [Is, Region.binds] at he
        first | exact op_skip rfl ((wanted_some rfl rfl (by first | (simp [he]; done) | (simp [he]; rfl))).trans rfl) rfl | exact op_val rfl ((wanted_some rfl rfl (by first | (simp [he]; done) | (simp [he]; rfl))).trans rfl) (by first | (go_simp; done) | (go_simp; rfl) | (simp [execOp, Act.eval, go_sem, *]; done) | (simp [execOp, Act.eval, go_sem, *]; rfl)) rfl (Pu.refl _)
      · intro a' w' hs hp he
        try simp [Is, Region.binds] at he
        first | exact op_skip rfl ((wanted_some rfl rfl (by first | (simp [he]; done) | (simp [he]; rfl))).trans rfl) rfl | exact op_val rfl ((wanted_some rfl rfl (by first | (simp [he]; done) | (simp [he]; rfl))).trans rfl) (by first | (go_simp; done) | (go_simp; rfl) | (simp [execOp, Act.eval, go_sem, *]; done) | (simp [execOp, Act.eval, go_sem, *]; rfl)) rfl (Pu.refl _)
      · intro a' w' hs hp he
        try simp [Is, Region.binds] at he
        exact op_val rfl (wanted_none rfl) (by first | (go_simp; done) | (go_simp; rfl) | (simp [execOp, Act.eval, go_sem, *]; done) | (simp [execOp, Act.eval, go_sem, *]; rfl)) rfl (Pu.refl _)
      · intro a' w' hs hp he
        try simp [Is, Region.binds] at he
        exact op_val rfl (wanted_none rfl) (by first | (go_simp; done) | (go_simp; rfl) | (simp [execOp, Act.eval, go_sem, *]; done) | (simp [execOp, Act.eval, go_sem, *]; rfl)) rfl (Pu.refl _)
      · intro a' w' hs hp he
        have e15 := hs 15 (by kernel_rfl)
        try simp [Is, Region.binds] at he
        first | exact op_skip rfl ((wanted_some rfl rfl (by first | (simp [he]; done) | (simp [he]; rfl))).trans rfl) rfl | exact op_val rfl ((wanted_some rfl rfl (by first | (simp [he]; done) | (simp [he]; rfl))).trans rfl) (by first | (go_simp; done) | (go_simp; rfl) | (simp [execOp, Act.eval, go_sem, *]; done) | (simp [execOp, Act.eval, go_sem, *]; rfl)) rfl (Pu.refl _)
      · intro a' w' hs hp he
        try simp [Is, Region.binds] at he
        exact op_callP ((doneW (t13.pu hp).h).mono (by rintro e w' ⟨rfl, rfl⟩; exact ⟨rfl, Pu.refl _⟩)) rfl ((wanted_some rfl rfl (by first | (simp [he]; done) | (simp [he]; rfl))).trans rfl) (by first | (go_simp; done) | (go_simp; rfl)) (fun _ => rfl)
      · intro a' w' hs hp he
        try simp [Is, Region.binds] at he
        exact op_val rfl (wanted_none rfl) (by first | (go_simp; done) | (go_simp; rfl) | (simp [execOp, Act.eval, go_sem, *]; done) | (simp [execOp, Act.eval, go_sem, *]; rfl)) rfl (Pu.refl _)
      · intro a' w' hs hp he
        try simp [Is, Region.binds] at he
        exact op_val rfl (wanted_none rfl) (by first | (go_simp; done) | (go_simp; rfl) | (simp [execOp, Act.eval, go_sem, *]; done) | (simp [execOp, Act.eval, go_sem, *]; rfl)) rfl (Pu.refl _)
    case hend =>
      intro a' w' hdef hsz hs hp hall
      obtain ⟨r0, r1, r2, r3, r4, r5, r6, r7, r8, r9, r10, r11, r12, r13, r14, r15, r16, r17, r18, r19, r20, r21, r22, r23, r24, r25, r26, r27, r28, r29, r30, r31, r32, r33, r34, r35, r36, r37, r38, r39, -⟩ := hall
      have hA := agree_done (agree_step (agree_step (agree_step (agree_step (agree_step (agree_step (agree_step (agree_step (agree_step (agree_step (agree_step (agree_step (agree_step (agree_step (agree_step (agree_step (agree_step (agree_step (agree_step (agree_step (agree_step (agree_step (agree_step (agree_step (agree_step (agree_step (agree_step (agree_step (agree_step (agree_step (agree_step (agree_step (agree_step (agree_step (agree_step (agree_step (agree_step (agree_step (agree_step (agree_step (agree_init [120, 121, 122, 123, 124, 125, 126, 127, 128, 129, 130, 131, 132, 133, 134, 135, 136, 137, 138, 139, 140, 141, 142, 143, 144, 145, 146, 147, 148, 149, 150, 151, 152, 153, 154, 155, 156, 157, 158, 10] hsz hs (by kernel_rfl)) r0) r1) r2) r3) r4) r5) r6) r7) r8) r9) r10) r11) r12) r13) r14) r15) r16) r17) r18) r19) r20) r21) r22) r23) r24) r25) r26) r27) r28) r29) r30) r31) r32) r33) r34) r35) r36) r37) r38) r39)
      have ha := act_of hA hdef
      rw [ha]
      clear ha hA hs hsz hdef r0 r1 r2 r3 r4 r5 r6 r7 r8 r9 r10 r11 r12 r13 r14 r15 r16 r17 r18 r19 r20 r21 r22 r23 r24 r25 r26 r27 r28 r29 r30 r31 r32 r33 r34 r35 r36 r37 r38 r39 
      (try simp only [List.setIfInBounds_toArray])
      (try dsimp only [List.set_cons_zero, List.set_cons_succ])
      (try simp only [Exit.then])
      simp only [Option.isSome_some, if_true]
      go_wp2_with fail
      go_ret
      exact ⟨rfl, Pu.trans HP04.out (t13.pu hp).since⟩
end Go.Proofs.YtlbdbmnkjljohaaGreat
