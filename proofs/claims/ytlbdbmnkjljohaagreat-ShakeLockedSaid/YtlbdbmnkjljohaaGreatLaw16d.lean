/- Chapter 16: ShakeLocked. -/
import Derived.Test.YtlbdbmnkjljohaaGreatT17
import Derived.Test.YtlbdbmnkjljohaaGreatFill
set_option linter.unusedSimpArgs false
set_option linter.unusedVariables false
namespace Go.Proofs.YtlbdbmnkjljohaaGreat
open Go.RowKit Go.Esc
set_option maxRecDepth 100000 in
set_option maxHeartbeats 1600000 in
theorem newOneNo (name sec : Bs) (h : userB name sec = false) (hn : name.length ≤ 1000000) (hs : sec.length ≤ 1000000) (w : World) :
    Calls Tryz.prog 28 #[.slice (some ⟨w.heap.size, 0, none⟩) 1 1] (w.alloc (.cells #[S name, S sec] 23)) fun e w' => e = .returned (.tuple #[.pointer none, .int .i64 1]) ∧ Pu w w' := by
  have hmm := @run_makeMap Tryz.prog
  have hi2 : (Tryz.prog.info? 23).map (·.size) = some 2 := by kernel_rfl
  have hR := fun w => rightW name sec hn hs w
  rw [h] at hR
  have HR := Lib.hid hR
  have hrw : Row (w.alloc (.cells #[S name, S sec] 23)) w.heap.size 23 [S name, S sec] := Row.newAt _ _ _ _ rfl rfl
  have hp0 := (Pu.refl w).alloc (.cells #[S name, S sec] 23)
  obtain ⟨w0, hw0⟩ : ∃ w0, w0 = w.alloc (.cells #[S name, S sec] 23) := ⟨_, rfl⟩
  rw [← hw0] at hrw hp0 ⊢
  obtain ⟨g, hg⟩ : ∃ g, g = w.heap.size := ⟨_, rfl⟩
  rw [← hg] at hrw ⊢
  clear hw0 hg hR h
  go_enter Tryz.func28, Tryz.ntmps28
  go_wp2_with fail
  have p1 := (Pu.refl w0).alloc (.map #[] 0)
  have p2 := (Pu.refl (w0.alloc (.map #[] 0))).alloc (.cells #[.map (some w0.heap.size)] 108)
  have hp2 := p1.trans p2
  have hrw2 := hrw.pu hp2
  go_loopw [15, 6] (fun x _ wr => x = .int .i64 0 ∧ wr = (w0.alloc (.map #[] 0)).alloc (.cells #[.map (some w0.heap.size)] 108)) (fun _ _ _ => 0)
  case atStart => exact ⟨rfl, rfl⟩
  case round =>
    obtain ⟨rfl, hwr⟩ := hrel
    rw [← hwr] at hp2 hrw2
    clear hwr p1 p2
    go_wp2_with (first
      | (refine wpList_load_part rfl 23 (.tmp 17) rfl g 0 2 (by rfl) hrw2 Tryz.underlying23 rfl hi2 (by simp) ?_)
      | (refine wpList_store_part rfl 23 (.tmp 6) (.tmp 18) rfl wr.heap.size 0 [S name, S sec] (by rfl) (by rfl) (Row.newAt wr wr.heap.size _ _ rfl rfl) hi2 (by simp) (by simp [Value.oneCell']) ?_; intro w2 hr2 hch2))
    rw [splice_all (by rfl)] at hr2
    have hp3 : Pu wr w2 := hch2.below ((Pu.refl wr).alloc _) (Nat.le_refl _)
    have hl2 := fun w' (hp : Pu w2 w') => (hr2.pu hp).load (P := Tryz.prog) 23 0 2 Tryz.underlying23 rfl hi2 (by simp)
    have HL2 := Lib.hid hl2
    clear hl2 hr2 hch2 hrw2 hrw
    apply region_pu (Φs := (Is _ :: Is _ :: Is _ :: Is _ :: Is _ :: Is _ :: Is _ :: Is _ :: Is _ :: Is _ :: Is _ :: Is _ :: Is _ :: [])) (hm := by kernel_rfl) (hE := by kernel_rfl) (hD := by kernel_rfl) (hsize := by kernel_rfl)
    case hop =>
      refine ⟨?_, ?_, ?_, ?_, ?_, ?_, ?_, ?_, ?_, ?_, ?_, ?_, ?_, trivial⟩
      · intro a' w' hs hp he
        have e6 := hs 6 (by kernel_rfl)
        try simp [Is, Region.binds] at he
        have hl := HL2.out _ hp; exact op_load rfl rfl 23 (.tmp 6) rfl ⟨wr.heap.size, 0, none⟩ (by first | exact e6 | (simpa [Act.eval] using e6)) hl rfl
      · intro a' w' hs hp he
        try simp [Is, Region.binds] at he
        exact op_callP (HR.out _) rfl (wanted_none rfl) (by first | (go_simp; done) | (go_simp; rfl)) (fun _ => rfl)
      · intro a' w' hs hp he
        try simp [Is, Region.binds] at he
        exact op_val rfl (wanted_none rfl) (by first | (go_simp; done) | (go_simp; rfl) | (simp [execOp, Act.eval, go_sem, *]; done) | (simp [execOp, Act.eval, go_sem, *]; rfl)) rfl (Pu.refl _)
      · intro a' w' hs hp he
        try simp [Is, Region.binds] at he
        exact op_val rfl (wanted_none rfl) (by first | (go_simp; done) | (go_simp; rfl) | (simp [execOp, Act.eval, go_sem, *]; done) | (simp [execOp, Act.eval, go_sem, *]; rfl)) rfl (Pu.refl _)
      · intro a' w' hs hp he
        have e4 := hs 4 (by kernel_rfl)
        try simp [Is, Region.binds] at he
        first | exact op_skip rfl ((wanted_some rfl rfl (by first | (simp [he]; done) | (simp [he]; rfl))).trans rfl) rfl | exact op_val rfl ((wanted_some rfl rfl (by first | (simp [he]; done) | (simp [he]; rfl))).trans rfl) (by first | (go_simp; done) | (go_simp; rfl) | (simp [execOp, Act.eval, go_sem, *]; done) | (simp [execOp, Act.eval, go_sem, *]; rfl)) rfl (Pu.refl _)
      · intro a' w' hs hp he
        try simp [Is, Region.binds] at he
        first | exact op_skip rfl ((wanted_some rfl rfl (by first | (simp [he]; done) | (simp [he]; rfl))).trans rfl) rfl | exact op_val rfl ((wanted_some rfl rfl (by first | (simp [he]; done) | (simp [he]; rfl))).trans rfl) (by first | (go_simp; done) | (go_simp; rfl) | (simp [execOp, Act.eval, go_sem, *]; done) | (simp [execOp, Act.eval, go_sem, *]; rfl)) rfl (Pu.refl _)
      · intro a' w' hs hp he
        try simp [Is, Region.binds] at he
        first | exact op_skip rfl ((wanted_some rfl rfl (by first | (simp [he]; done) | (simp [he]; rfl))).trans rfl) rfl | exact op_val rfl ((wanted_some rfl rfl (by first | (simp [he]; done) | (simp [he]; rfl))).trans rfl) (by first | (go_simp; done) | (go_simp; rfl) | (simp [execOp, Act.eval, go_sem, *]; done) | (simp [execOp, Act.eval, go_sem, *]; rfl)) rfl (Pu.refl _)
      · intro a' w' hs hp he
        try simp [Is, Region.binds] at he
        first | exact op_skip rfl ((wanted_some rfl rfl (by first | (simp [he]; done) | (simp [he]; rfl))).trans rfl) rfl | exact op_val rfl ((wanted_some rfl rfl (by first | (simp [he]; done) | (simp [he]; rfl))).trans rfl) (by first | (go_simp; done) | (go_simp; rfl) | (simp [execOp, Act.eval, go_sem, *]; done) | (simp [execOp, Act.eval, go_sem, *]; rfl)) rfl (Pu.refl _)
      · intro a' w' hs hp he
        have e6 := hs 6 (by kernel_rfl)
        try simp [Is, Region.binds] at he
        first | exact op_skip rfl ((wanted_some rfl rfl (by first | (simp [he]; done) | (simp [he]; rfl))).trans rfl) rfl | exact op_val rfl ((wanted_some rfl rfl (by first | (simp [he]; done) | (simp [he]; rfl))).trans rfl) (by first | (go_simp; done) | (go_simp; rfl) | (simp [execOp, Act.eval, go_sem, *]; done) | (simp [execOp, Act.eval, go_sem, *]; rfl)) rfl (Pu.refl _)
      · intro a' w' hs hp he
        try simp [Is, Region.binds] at he
        first | exact op_skip rfl ((wanted_some rfl rfl (by first | (simp [he]; done) | (simp [he]; rfl))).trans rfl) rfl | exact op_val rfl ((wanted_some rfl rfl (by first | (simp [he]; done) | (simp [he]; rfl))).trans rfl) (by first | (go_simp; done) | (go_simp; rfl) | (simp [execOp, Act.eval, go_sem, *]; done) | (simp [execOp, Act.eval, go_sem, *]; rfl)) rfl (Pu.refl _)
      · intro a' w' hs hp he
        try simp [Is, Region.binds] at he
        first | exact op_skip rfl ((wanted_some rfl rfl (by first | (simp [he]; done) | (simp [he]; rfl))).trans rfl) rfl | exact op_val rfl ((wanted_some rfl rfl (by first | (simp [he]; done) | (simp [he]; rfl))).trans rfl) (by first | (go_simp; done) | (go_simp; rfl) | (simp [execOp, Act.eval, go_sem, *]; done) | (simp [execOp, Act.eval, go_sem, *]; rfl)) rfl (Pu.refl _)
      · intro a' w' hs hp he
        try simp [Is, Region.binds] at he
        first | exact op_skip rfl ((wanted_some rfl rfl (by first | (simp [he]; done) | (simp [he]; rfl))).trans rfl) rfl | exact op_val rfl ((wanted_some rfl rfl (by first | (simp [he]; done) | (simp [he]; rfl))).trans rfl) (by first | (go_simp; done) | (go_simp; rfl) | (simp [execOp, Act.eval, go_sem, *]; done) | (simp [execOp, Act.eval, go_sem, *]; rfl)) rfl (Pu.refl _)
      · intro a' w' hs hp he
        try simp [Is, Region.binds] at he
        exact op_val rfl (wanted_none rfl) (by first | (go_simp; done) | (go_simp; rfl) | (simp [execOp, Act.eval, go_sem, *]; done) | (simp [execOp, Act.eval, go_sem, *]; rfl)) rfl (Pu.refl _)
    case hend =>
      intro a' w' hdef hsz hs hp hall
      obtain ⟨r0, r1, r2, r3, r4, r5, r6, r7, r8, r9, r10, r11, r12, -⟩ := hall
      have hA := agree_done (agree_step (agree_step (agree_step (agree_step (agree_step (agree_step (agree_step (agree_step (agree_step (agree_step (agree_step (agree_step (agree_step (agree_init [19, 20, 21, 22, 23, 24, 25, 26, 27, 28, 29, 30, 31] hsz hs (by kernel_rfl)) r0) r1) r2) r3) r4) r5) r6) r7) r8) r9) r10) r11) r12)
      have ha := act_of hA hdef
      rw [ha]
      clear ha hA hs hsz hdef r0 r1 r2 r3 r4 r5 r6 r7 r8 r9 r10 r11 r12 
      (try simp only [List.setIfInBounds_toArray])
      (try dsimp only [List.set_cons_zero, List.set_cons_succ])
      (try simp only [Exit.then])
      simp only [Option.isSome_some, if_true]
      go_wp2_with fail
      go_ret2
      exact ⟨rfl, Pu.trans hp0 (hp2.trans (hp3.trans hp))⟩
theorem got_locked (nh : Bs) (l : List UserS) (name papers x sec : Bs) (now : Int) (hx : x.length = 32) (h1 : secV l name = some sec) (h2 : lockV l name now = true) : gotR nh l (hst1 name papers) (3 :: x) now = ⟨[], 6, ⟨2, true, name, papers, false, [], []⟩, l⟩ := by
  have hp : provR l { hst1 name papers with got := (hst1 name papers).got + 1 } (3 :: x) now = ⟨[], 6, ⟨2, false, name, papers, false, [], []⟩, l⟩ := by
    unfold provR
    rw [fix3 _ hx]
    simp only [hst1]
    rw [h1]
    simp [h2]
  unfold gotR
  rw [if_neg (by simp [hst1]), if_neg (by simp [hst1]), hp]
  rfl
/-- The user, after so many failures at one time. -/
def lockL (name sec : Bs) (now : Int) (k : Nat) : List UserS := if k < 3 then [⟨name, sec, k, false, 0⟩] else [⟨name, sec, 0, true, now + 20⟩]
theorem lock_pos (name sec : Bs) (now : Int) (k : Nat) : posN (lockL name sec now k) name = some 0 := by
  unfold lockL posN; split <;> simp
theorem lock_step (name sec : Bs) (now : Int) (k : Nat) (hk : k < 3) (h : now ≤ 9223372036854775787) : modN (lockL name sec now k) name (failS now) = lockL name sec now (k+1) := by
  unfold modN modU
  rw [lock_pos]
  match k, hk with
  | 0, _ => rfl
  | 1, _ => rfl
  | 2, _ => simp [lockL, failS, h]
theorem lock_len (name sec : Bs) (now : Int) (k : Nat) (hs : sec.length = 32) : ∀ u ∈ lockL name sec now k, u.secret.length = 32 := by
  intro u hu
  unfold lockL at hu
  split at hu <;> (simp at hu; subst hu; exact hs)
theorem lock_sec (name sec : Bs) (now : Int) (k : Nat) : secV (lockL name sec now k) name = some sec := by
  unfold secV; rw [lock_pos]; unfold lockL; split <;> rfl
theorem lock_lock (name sec : Bs) (now t : Int) : lockV (lockL name sec now 3) name t = decide (t ≤ now + 20) := by
  unfold lockV; rw [lock_pos]; simp [lockL, lockedS]
theorem lock_good (name sec : Bs) (now : Int) : modN (lockL name sec now 3) name goodS = lockL name sec now 3 := by
  unfold modN modU; rw [lock_pos]; rfl
set_option maxRecDepth 100000 in
set_option maxHeartbeats 3200000 in
theorem shakeLocked_walk (s1 : ByteArray) (z1 : s1.size ≤ maxLen) (now : Int) (zn : (Lit.int .i64 now).wf = true) (later : Int) (zl : (Lit.int .i64 later).wf = true) (w : World) :
    Calls Tryz.prog 5 #[.string s1, .int .i64 now, .int .i64 later] w fun e w' => e = .returned (.bool true) ∧ Pu w w' := by
  obtain ⟨name, rfl⟩ : ∃ a, s1 = bs a := ⟨_, bs_eta s1⟩
  clear z1 zn zl
  by_cases g1 : 60 < name.length
  · have q1 : (60 : Int) < name.length := by omega
    go_enter Tryz.func5, Tryz.ntmps5
    go_wp2_with (go_at_call 12; refine (alive16 _).mono ?_; rintro e w1 ⟨rfl, hp1⟩)
    go_ret
    exact ⟨rfl, hp1⟩
  have q1 : ¬ (60 : Int) < name.length := by omega
  by_cases g2 : now < 0
  · have q2 : now < 0 := g2
    go_enter Tryz.func5, Tryz.ntmps5
    go_wp2_with (go_at_call 12; refine (alive16 _).mono ?_; rintro e w1 ⟨rfl, hp1⟩)
    go_ret
    exact ⟨rfl, hp1⟩
  have q2 : ¬ now < 0 := g2
  by_cases g3 : 1000000 < now
  · have q3 : (1000000 : Int) < now := g3
    go_enter Tryz.func5, Tryz.ntmps5
    go_wp2_with (go_at_call 12; refine (alive16 _).mono ?_; rintro e w1 ⟨rfl, hp1⟩)
    go_ret
    exact ⟨rfl, hp1⟩
  have q3 : ¬ (1000000 : Int) < now := g3
  by_cases g4 : later < 0
  · have q4 : later < 0 := g4
    go_enter Tryz.func5, Tryz.ntmps5
    go_wp2_with (go_at_call 12; refine (alive16 _).mono ?_; rintro e w1 ⟨rfl, hp1⟩)
    go_ret
    exact ⟨rfl, hp1⟩
  have q4 : ¬ later < 0 := g4
  by_cases g5 : 60 < later
  · have q5 : (60 : Int) < later := g5
    go_enter Tryz.func5, Tryz.ntmps5
    go_wp2_with (go_at_call 12; refine (alive16 _).mono ?_; rintro e w1 ⟨rfl, hp1⟩)
    go_ret
    exact ⟨rfl, hp1⟩
  have q5 : ¬ (60 : Int) < later := g5
  have hi2 : (Tryz.prog.info? 23).map (·.size) = some 2 := by kernel_rfl
  have hF1 := fun w => fillW [115] 32 (by decide) (by decide) w
  change ∀ w, Calls Tryz.prog 16 #[S [115], .int .i64 32] w fun e w' => e = .returned (S secS) ∧ w' = w at hF1
  have hsl : secS.length = 32 := by decide +kernel
  have HF1 := Lib.hid hF1
  have k115 : (ByteArray.mk #[115]) = bs [115] := rfl
  cases hub : userB name secS with
  | false =>
    have hNo := fun w => newOneNo name secS hub (by omega) (by omega) w
    have hRu := fun w => refUser name secS (by omega) (by omega) w
    rw [hub] at hRu
    have HNO := Lib.hid hNo
    have HRU := Lib.hid hRu
    clear hF1 hNo hRu hub
    go_enter Tryz.func5, Tryz.ntmps5
    go_wp2_with (first
      | (go_at_call 12; refine (alive16 _).mono ?_; rintro e w1 ⟨rfl, hp1⟩)
      | (go_at_call 16; refine (HF1.out _).mono ?_; rintro e w1 ⟨rfl, rfl⟩)
      | (refine wpList_store_part rfl 23 (.tmp 7) (.tmp 47) rfl w1.heap.size 0 [S name, S secS] (by rfl) (by rfl) (Row.newAt w1 w1.heap.size _ _ rfl rfl) hi2 (by simp) (by simp [Value.oneCell']) ?_; intro wM hrM hchM
         have hpM : Pu w1 wM := hchM.below ((Pu.refl w1).alloc _) (Nat.le_refl _)
         rw [splice_all (by rfl)] at hrM
         clear hchM)
      | (refine wpList_load_row rfl 23 (.tmp 7) rfl w1.heap.size [S name, S secS] (by rfl) hrM Tryz.underlying23 rfl hi2 ?_)
      | (go_at_call 28; refine (HNO.out _).mono ?_; rintro e w2 ⟨rfl, hp2⟩)
      | (refine wpList_load_row rfl 23 (.tmp 7) rfl w1.heap.size [S name, S secS] (by rfl) (hrM.pu hp2) Tryz.underlying23 rfl hi2 ?_)
      | (go_at_call 14; refine (HRU.out _).mono ?_; rintro e w3 ⟨rfl, hp3⟩))
    go_ret
    exact ⟨rfl, Pu.trans hp1 (Pu.trans hpM (Pu.trans hp2 hp3))⟩
  | true =>
    have hi4 : (Tryz.prog.info? 44).map (·.size) = some 2 := by kernel_rfl
    have hnB : nameB name = true := by unfold userB at hub; simp at hub; exact hub.1
    have hnl := nameB_len hnB
    have hgo : guestOk name secS nonG := ⟨hub, by decide⟩
    have hnh : nonH.length = 16 := by decide
    have hUs := fun w => newOne name secS hub w
    have hNg := fun w => newGuest name secS nonG hgo w
    have hNh := fun ub w => newHost ub nonH hnh w
    have hw : IntKind.i64.wrap (now + later) = now + later := by rw [IntKind.wrap_i64]; omega
    have HUS := Lib.hid hUs
    have HNG := Lib.hid hNg
    have HNH := Lib.hid hNh
    have HGO := Lib.hid hgo
    have T1 := Lib.hid True.intro
    have kng : (ByteArray.mk #[48, 49, 50, 51, 52, 53, 54, 55, 56, 57, 97, 98, 99, 100, 101, 102]) = bs nonG := rfl
    have knh : (ByteArray.mk #[102, 101, 100, 99, 98, 97, 57, 56, 55, 54, 53, 52, 51, 50, 49, 48]) = bs nonH := rfl
    clear hF1 hUs hNg hNh hub hnB
    go_enter Tryz.func5, Tryz.ntmps5
    go_wp2_with (first
      | (go_at_call 12; refine (alive16 _).mono ?_; rintro e w1 ⟨rfl, hp1⟩)
      | (go_at_call 16; refine (HF1.out _).mono ?_; rintro e w1 ⟨rfl, rfl⟩)
      | (refine wpList_store_part rfl 23 (.tmp 7) (.tmp 47) rfl w1.heap.size 0 [S name, S secS] (by rfl) (by rfl) (Row.newAt w1 w1.heap.size _ _ rfl rfl) hi2 (by simp) (by simp [Value.oneCell']) ?_; intro wM hrM hchM
         have hpM : Pu w1 wM := hchM.below ((Pu.refl w1).alloc _) (Nat.le_refl _)
         rw [splice_all (by rfl)] at hrM
         clear hchM)
      | (refine wpList_load_row rfl 23 (.tmp 7) rfl w1.heap.size [S name, S secS] (by rfl) hrM Tryz.underlying23 rfl hi2 ?_)
      | (go_at_call 28; refine (HUS.out _).mono ?_; rintro e w2 ⟨ub, G, rfl, hu2, hlo, hp2⟩))
    go_loopw [10] (fun x wr => ∃ k : Nat, k ≤ 3 ∧ x = .int .i64 (k : Int) ∧ UsersAt G wr ub (lockL name secS now k) ∧ Pu wM wr) (fun x _ => 3 - (intOf x).toNat)
    case atStart => exact ⟨0, by omega, rfl, hu2, hp2⟩
    case round =>
      clear hu2 hp2
      obtain ⟨k, hk, rfl, hu, hpr⟩ := hrel
      by_cases hlt : k < 3
      · have hk1 : (k : Int) < 3 := by omega
        have hst := lock_step name secS now k hlt (by omega)
        have HST := Lib.hid hst
        clear hst
        go_wp2_with (go_at_call 34; refine (failW hu name (by omega) now (by omega) (by omega)).mono ?_; rw [HST.out]; rintro e w3 ⟨rfl, hu3, hc3⟩)
        have hp3 := Cg.below hpr hc3 hlo hpr.size
        go_roundw
        case rel => exact ⟨k + 1, by omega, by go_num, hu3, hp3⟩
        case measure => simp [intOf]; omega
      · obtain rfl : k = 3 := by omega
        have hlt' : decide (((3 : Nat) : Int) < 3) = false := by decide
        have e1 := got_hello nonH (lockL name secS now 3) name nonG (now + later) HGO.out.hello
        have e2 := chal_ok secS (helloL name nonG) nonH hnh
        have hhl := helloL_length name nonG
        have hng : nonG.length = 16 := by decide
        have hch : (chalL nonH).length = 17 := by decide
        obtain ⟨pap, hpap⟩ : ∃ x, x = helloL name nonG ++ chalL nonH := ⟨_, rfl⟩
        have hpl : pap.length = 2 + name.length + 16 + 17 := by rw [hpap, List.length_append, hhl, hch, hng]
        rw [← hpap] at e1 e2
        have hprl : (3 :: proofL secS pap).length = 33 := by simp [proofL_length]
        have hfil : (4 :: finishL secS pap).length = 33 := by simp [finishL_length]
        have hll := lock_len name secS now 3 hsl
        have hlk := lock_lock name secS now (now + later)
        have e5 := fin_ok secS pap
        have hke : keysO secS pap true = [S (upL secS pap), S (downL secS pap)] := rfl
        have eL := fun (h : later ≤ 20) => got_locked nonH (lockL name secS now 3) name pap (proofL secS pap) secS (now + later) (proofL_length _ _) (lock_sec _ _ _ _) (by rw [hlk]; simp; omega)
        have eP := fun (h : ¬ later ≤ 20) => got_proof nonH (lockL name secS now 3) name pap secS (now + later) (lock_sec _ _ _ _) (by rw [hlk]; simp; omega)
        rw [lock_good] at eP
        obtain ⟨L, hL⟩ : ∃ x, x = lockL name secS now 3 := ⟨_, rfl⟩
        rw [← hL] at e1 hll eL eP hu
        obtain ⟨pr, hpr9⟩ : ∃ x, x = 3 :: proofL secS pap := ⟨_, rfl⟩
        obtain ⟨fi, hfi9⟩ : ∃ x, x = 4 :: finishL secS pap := ⟨_, rfl⟩
        obtain ⟨hel, hhel⟩ : ∃ x, x = helloL name nonG := ⟨_, rfl⟩
        obtain ⟨c, hc⟩ : ∃ x, x = chalL nonH := ⟨_, rfl⟩
        rw [← hc] at e1 e2 hch
        have hcl : c.length = 17 := hch
        rw [← hpr9] at e2 hprl eL eP
        rw [← hfi9] at hfil e5 eP
        rw [← hhel] at e1 e2 hhl
        rw [hng] at hhl
        have E1 := Lib.hid e1
        have E2 := Lib.hid e2
        have E5 := Lib.hid e5
        have HKE := Lib.hid hke
        have HHEL := Lib.hid hhel
        have HLL := Lib.hid hll
        have HPL := Lib.hid hpl
        have HHL := Lib.hid hhl
        by_cases hle : later ≤ 20
        · have e3 := eL hle
          have E3 := Lib.hid e3
          clear e1 e2 e3 e5 eL eP hhl hch hpl hpap hll hlk hke hL hpr9 hfi9 hhel hc hng
          go_wp2_with (first
            | (refine wpList_load_row rfl 23 (.tmp 7) rfl w1.heap.size [S name, S secS] (by rfl) (hrM.pu hpr) Tryz.underlying23 rfl hi2 ?_)
            | (go_at_call 13; refine (HNG.out _).mono ?_; rintro e w3 ⟨gb, rfl, hg3, hgl, hp3⟩)
            | (go_at_call 29; refine (HNH.out ub _).mono ?_; rintro e w4 ⟨hb, rfl, hh4, hhl, hp4⟩
               have t4 := Trio.start hu hpr hlo hg3 hgl hp3 hh4 hhl hp4
               clear hg3 hh4 hp3 hp4)
            | (go_at_call 24; refine (helloG t4.g).mono ?_; rw [← HHEL.out]; rintro e w5 ⟨rfl, rfl⟩)
            | (go_at_call 30; clear T1; refine (trioGot t4 hnh HLL.out (by decide) (by decide) (by decide) hel (by rw [HHL.out]; omega) (now + later) (by omega) (by omega)).mono ?_; rw [E1.out]; rintro e w6 ⟨rfl, t6⟩)
            | (go_at_call 18; refine (trioChal t6 (by decide) HGO.out c (by omega)).mono ?_; rw [← HHEL.out, E2.out]; rintro e w7 ⟨rfl, t7⟩)
            | (go_at_call 30; refine (trioGot t7 hnh HLL.out (by show List.length name ≤ 1000000; omega) (by show List.length pap ≤ 10000; rw [HPL.out]; omega) (by show (1 : Nat) ≤ 1000; omega) pr (by omega) (now + later) (by omega) (by omega)).mono ?_; rw [E3.out]; rintro e w8 ⟨rfl, t8⟩)
            | (go_at_call 31; refine (doneW t8.h).mono ?_; rintro e w10 ⟨rfl, rfl⟩))
          go_ret
          exact ⟨rfl, Pu.trans hp1 (Pu.trans hpM t8.since)⟩
        · have e3 := eP hle
          have E3 := Lib.hid e3
          clear e1 e2 e3 e5 eL eP hhl hch hpl hpap hll hlk hke hL hpr9 hfi9 hhel hc hng
          go_wp2_with (first
            | (refine wpList_load_row rfl 23 (.tmp 7) rfl w1.heap.size [S name, S secS] (by rfl) (hrM.pu hpr) Tryz.underlying23 rfl hi2 ?_)
            | (go_at_call 13; refine (HNG.out _).mono ?_; rintro e w3 ⟨gb, rfl, hg3, hgl, hp3⟩)
            | (go_at_call 29; refine (HNH.out ub _).mono ?_; rintro e w4 ⟨hb, rfl, hh4, hhl, hp4⟩
               have t4 := Trio.start hu hpr hlo hg3 hgl hp3 hh4 hhl hp4
               clear hg3 hh4 hp3 hp4)
            | (go_at_call 24; refine (helloG t4.g).mono ?_; rw [← HHEL.out]; rintro e w5 ⟨rfl, rfl⟩)
            | (go_at_call 30; clear T1; refine (trioGot t4 hnh HLL.out (by decide) (by decide) (by decide) hel (by rw [HHL.out]; omega) (now + later) (by omega) (by omega)).mono ?_; rw [E1.out]; rintro e w6 ⟨rfl, t6⟩)
            | (go_at_call 18; refine (trioChal t6 (by decide) HGO.out c (by omega)).mono ?_; rw [← HHEL.out, E2.out]; rintro e w7 ⟨rfl, t7⟩)
            | (go_at_call 30; refine (trioGot t7 hnh HLL.out (by show List.length name ≤ 1000000; omega) (by show List.length pap ≤ 10000; rw [HPL.out]; omega) (by show (1 : Nat) ≤ 1000; omega) pr (by omega) (now + later) (by omega) (by omega)).mono ?_; rw [E3.out]; rintro e w8 ⟨rfl, t8⟩)
            | (go_at_call 22; refine (trioFin t8 (by omega) HGO.out (by rw [HPL.out]; omega) fi (by omega)).mono ?_; rw [E5.out]; simp only; rw [HKE.out]; rintro e w9 ⟨rfl, t9⟩)
            | (refine wpList_store_part rfl 44 (.tmp 19) (.tmp 125) rfl w9.heap.size 0 [S (upL secS pap), S (downL secS pap)] (by rfl) (by rfl) (Row.newAt w9 w9.heap.size _ _ rfl rfl) hi4 (by simp) (by simp [Value.oneCell']) ?_; intro w11 hr11 hch11
               have hp11 : Pu w9 w11 := hch11.below ((Pu.refl w9).alloc _) (Nat.le_refl _)
               have t11 := t9.pu hp11
               clear hch11 hr11)
            | (go_at_call 31; refine (doneW t11.h).mono ?_; rintro e w10 ⟨rfl, rfl⟩))
          go_ret
          exact ⟨rfl, Pu.trans hp1 (Pu.trans hpM t11.since)⟩
end Go.Proofs.YtlbdbmnkjljohaaGreat
