/- The document's hello of bytes. -/
import Derived.Test.YtlbdbmnkjljohaaGreatT17
set_option linter.unusedSimpArgs false
set_option linter.unusedVariables false
namespace Go.Proofs.YtlbdbmnkjljohaaGreat
open Go.RowKit Go.Esc
theorem two_cons : ∀ (b : Bs), 2 ≤ b.length → b = b.headD 0 :: b.getD 1 0 :: b.drop 2
  | c :: x :: r, _ => rfl
set_option maxRecDepth 100000 in
set_option maxHeartbeats 1600000 in
theorem refGetHello (b : Bs) (hb : b.length ≤ 10000) (w : World) :
    Calls Tryz.prog 36 #[S b] w fun e w' => e = .returned (.tuple #[.agg (helloV (getHello b)).toArray, .bool (getHello b).isSome]) ∧ Pu w w' := by
  have hi : (Tryz.prog.info? 32).map (·.size) = some 2 := by kernel_rfl
  have hp0 := (Pu.refl w).alloc (.cells #[.string ⟨#[]⟩, .string ⟨#[]⟩] 32)
  by_cases h2 : b.length < 2
  · have k2 : (b.length : Int) < 2 := by omega
    have e9 : getHello b = none := by unfold getHello; rw [if_neg (by omega)]
    rw [e9]
    clear e9
    go_enter Tryz.func36, Tryz.ntmps36
    go_wp2_with (refine wpList_store_part rfl 32 (.tmp 2) (.tmp 19) rfl w.heap.size 0 [S [], S []] (by rfl) (by rfl) (Row.newAt w w.heap.size _ _ rfl rfl) hi (by simp) (by simp [Value.oneCell']) ?_; intro w4 hr4 hch4)
    rw [splice_all (by rfl)] at hr4
    have hrl := hr4.load (P := Tryz.prog) 32 0 2 Tryz.underlying32 rfl hi (by simp)
    (try simp only [Exit.inBlock, Exit.then])
    refine bodyPost_ret (results_cell_slot rfl _ _ rfl rfl hrl) rfl ?_
    exact ⟨rfl, hch4.below hp0 (Nat.le_refl _)⟩
  have k2 : ¬ (b.length : Int) < 2 := by omega
  have k3 : (1 : Int) < b.length := by omega
  obtain ⟨d, hd⟩ : ∃ d, d = (b[1]'(by omega)) := ⟨_, rfl⟩
  have hgd : b.getD 1 0 = d := by rw [hd, List.getD_eq_getElem?_getD, List.getElem?_eq_getElem (by omega)]; rfl
  have hdl := d.toNat_lt
  have kw : IntKind.i64.wrap (d.toNat : Int) = d.toNat := by rw [IntKind.wrap_i64]; omega
  have hd' : b[1]'(by omega) = d := hd.symm
  by_cases h3 : b.length = 18 + d.toNat
  rotate_left
  · have kw1 : IntKind.i64.wrap (18 + (d.toNat : Int)) = 18 + (d.toNat : Int) := by rw [IntKind.wrap_i64]; omega
    have k4 : ((b.length : Int) != 18 + (d.toNat : Int)) = true := by simp; omega
    have e9 : getHello b = none := by unfold getHello; rw [hgd, if_neg (by omega)]
    rw [e9]
    clear e9 hgd hd
    go_enter Tryz.func36, Tryz.ntmps36
    go_wp2_with (refine wpList_store_part rfl 32 (.tmp 2) (.tmp 19) rfl w.heap.size 0 [S [], S []] (by rfl) (by rfl) (Row.newAt w w.heap.size _ _ rfl rfl) hi (by simp) (by simp [Value.oneCell']) ?_; intro w4 hr4 hch4)
    rw [splice_all (by rfl)] at hr4
    have hrl := hr4.load (P := Tryz.prog) 32 0 2 Tryz.underlying32 rfl hi (by simp)
    (try simp only [Exit.inBlock, Exit.then])
    refine bodyPost_ret (results_cell_slot rfl _ _ rfl rfl hrl) rfl ?_
    exact ⟨rfl, hch4.below hp0 (Nat.le_refl _)⟩
  obtain ⟨A, hA⟩ : ∃ A, A = 2 + d.toNat := ⟨_, rfl⟩
  have hsu : ∀ w, (Instr.slice 9 (S b) (some (.int .i64 2)) (some (.int .i64 (A : Int))) none).run Tryz.prog w = .ok (S ((b.take A).drop 2)) w := fun w => run_str_lh 9 Tryz.underlying9 b 2 A (by omega) (by omega) w
  have hsn : ∀ w, (Instr.slice 9 (S b) (some (.int .i64 (A : Int))) none none).run Tryz.prog w = .ok (S (b.drop A)) w := fun w => run_str_l 9 Tryz.underlying9 b A (by omega) w
  have k4 : (b.length : Int) = A + 16 := by omega
  have kw1 : IntKind.i64.wrap (18 + (d.toNat : Int)) = A + 16 := by rw [IntKind.wrap_i64]; omega
  have kwA : IntKind.i64.wrap (A : Int) = A := by rw [IntKind.wrap_i64]; omega
  have kwB : IntKind.i64.wrap ((A : Int) + 16 - 16) = A := by rw [IntKind.wrap_i64]; omega
  have hph := fun w => refHello ((b.take A).drop 2) (b.drop A) (by simp; omega) (by simp; omega) w
  have e9 : getHello b = if (b.headD 0).toNat = 1 ∧ 1 ≤ d.toNat ∧ d.toNat ≤ 20 then some ((b.take A).drop 2, b.drop A) else none := by
    unfold getHello
    rw [hgd]
    by_cases h : (b.headD 0).toNat = 1 ∧ 1 ≤ d.toNat ∧ d.toNat ≤ 20
    · rw [if_pos h, if_pos ⟨by omega, h.1, h3, h.2.1, h.2.2⟩, ← hA, List.drop_take]
      rw [show A - 2 = d.toNat by omega]
    · rw [if_neg h, if_neg (fun h9 => h ⟨h9.2.1, h9.2.2.2.1, h9.2.2.2.2⟩)]
  have hul : ((b.take A).drop 2).length = d.toNat := by simp; omega
  have hnl : (b.drop A).length = 16 := by simp; omega
  have hbe : b = (b.headD 0) :: UInt8.ofNat d.toNat :: ((b.take A).drop 2 ++ b.drop A) := by
    have e1 : (b.take A).drop 2 ++ b.drop A = b.drop 2 := by
      rw [List.drop_take, show b.drop A = (b.drop 2).drop (A - 2) by rw [List.drop_drop]; congr 1; omega, List.take_append_drop]
    have e2 := two_cons b (by omega)
    rw [hgd] at e2
    rw [e1, show UInt8.ofNat d.toNat = d by simp]
    exact e2
  obtain ⟨u, hu⟩ : ∃ u, u = (b.take A).drop 2 := ⟨_, rfl⟩
  obtain ⟨n, hn⟩ : ∃ n, n = b.drop A := ⟨_, rfl⟩
  rw [← hu] at hph e9 hsu hul hbe
  rw [← hn] at hph e9 hsn hnl hbe
  by_cases h4 : 1 ≤ d.toNat ∧ d.toNat ≤ 20
  · have hhr : helloR u n = some (helloL u n) := by unfold helloR; rw [if_pos ⟨hnl, by omega, by omega⟩]
    rw [hhr] at hph
    have hph' : ∀ w, Calls Tryz.prog 15 #[.agg #[S u, S n]] w fun e w' => e = .returned (.tuple #[S (helloL u n), .bool true]) ∧ Pu w w' := hph
    have hte : helloL u n = 1 :: UInt8.ofNat d.toNat :: (u ++ n) := by unfold helloL; rw [hul]
    by_cases h5 : (b.headD 0).toNat = 1
    · rw [e9, if_pos ⟨h5, h4⟩]
      have hhb : helloL u n = b := by
        rw [hte]
        have h6 : b.headD 0 = 1 := UInt8.toNat_inj.1 h5
        rw [h6] at hbe
        exact hbe.symm
      rw [hhb] at hph'
      have HP := Lib.hid hph'
      clear hph hph' hhr hte hbe hhb h5 e9 hul hnl hu hn hA h3 hgd hd h4
      go_enter Tryz.func36, Tryz.ntmps36
      go_wp2_with fail
      apply region_last (n := 12) (hn := by kernel_rfl) (hlast := rfl) (hU := by kernel_rfl) (Φs := (Is _ :: Is _ :: Is _ :: Is _ :: Is _ :: Is _ :: Is _ :: Is _ :: Is _ :: Is _ :: Is _ :: IsPtrB (w.heap.size + 1) 32 [S [], S []] :: [])) (hm := by kernel_rfl) (hE := by kernel_rfl) (hD := by kernel_rfl) (hsize := by kernel_rfl)
      case hop =>
        refine ⟨?_, ?_, ?_, ?_, ?_, ?_, ?_, ?_, ?_, ?_, ?_, ?_, trivial⟩
        · intro a' w' hs hp he
          have e0 := hs 0 (by kernel_rfl)
          try simp [Is, Region.binds] at he
          exact op_val rfl (wanted_none rfl) (by first | (go_simp; done) | (go_simp; rfl) | (simp [execOp, Act.eval, go_sem, *]; done) | (simp [execOp, Act.eval, go_sem, *]; rfl)) rfl (Pu.refl _)
        · intro a' w' hs hp he
          have e0 := hs 0 (by kernel_rfl)
          try simp [Is, Region.binds] at he
          exact op_val rfl (wanted_none rfl) (by first | (go_simp; done) | (go_simp; rfl) | (simp [execOp, Act.eval, go_sem, *]; done) | (simp [execOp, Act.eval, go_sem, *]; rfl)) rfl (Pu.refl _)
        · intro a' w' hs hp he
          try simp [Is, Region.binds] at he
          exact op_val rfl (wanted_none rfl) (by first | (go_simp; done) | (go_simp; rfl) | (simp [execOp, Act.eval, go_sem, *]; done) | (simp [execOp, Act.eval, go_sem, *]; rfl)) rfl (Pu.refl _)
        · intro a' w' hs hp he
          try simp [Is, Region.binds] at he
          exact op_val rfl (wanted_none rfl) (by first | (go_simp; done) | (go_simp; rfl) | (simp [execOp, Act.eval, go_sem, *]; done) | (simp [execOp, Act.eval, go_sem, *]; rfl)) rfl (Pu.refl _)
        · intro a' w' hs hp he
          try simp [Is, Region.binds] at he
          exact op_val rfl (wanted_none rfl) (by first | (go_simp; done) | (go_simp; rfl) | (simp [execOp, Act.eval, go_sem, *]; done) | (simp [execOp, Act.eval, go_sem, *]; rfl)) rfl (Pu.refl _)
        · intro a' w' hs hp he
          have e0 := hs 0 (by kernel_rfl)
          try simp [Is, Region.binds] at he
          exact op_val rfl (wanted_none rfl) (by first | (go_simp; done) | (go_simp; rfl) | (simp [execOp, Act.eval, go_sem, *]; done) | (simp [execOp, Act.eval, go_sem, *]; rfl)) rfl (Pu.refl _)
        · intro a' w' hs hp he
          have e0 := hs 0 (by kernel_rfl)
          try simp [Is, Region.binds] at he
          exact op_val rfl (wanted_none rfl) (by first | (go_simp; done) | (go_simp; rfl) | (simp [execOp, Act.eval, go_sem, *]; done) | (simp [execOp, Act.eval, go_sem, *]; rfl)) rfl (Pu.refl _)
        · intro a' w' hs hp he
          try simp [Is, Region.binds] at he
          exact op_val rfl (wanted_none rfl) (by first | (go_simp; done) | (go_simp; rfl) | (simp [execOp, Act.eval, go_sem, *]; done) | (simp [execOp, Act.eval, go_sem, *]; rfl)) rfl (Pu.refl _)
        · intro a' w' hs hp he
          try simp [Is, Region.binds] at he
          exact op_val rfl (wanted_none rfl) (by first | (go_simp; done) | (go_simp; rfl) | (simp [execOp, Act.eval, go_sem, *]; done) | (simp [execOp, Act.eval, go_sem, *]; rfl)) rfl (Pu.refl _)
        · intro a' w' hs hp he
          try simp [Is, Region.binds] at he
          exact op_val rfl (wanted_none rfl) (by first | (go_simp; done) | (go_simp; rfl) | (simp [execOp, Act.eval, go_sem, *]; done) | (simp [execOp, Act.eval, go_sem, *]; rfl)) rfl (Pu.refl _)
        · intro a' w' hs hp he
          try simp [Is, Region.binds] at he
          exact op_val rfl (wanted_none rfl) (by first | (go_simp; done) | (go_simp; rfl) | (simp [execOp, Act.eval, go_sem, *]; done) | (simp [execOp, Act.eval, go_sem, *]; rfl)) rfl (Pu.refl _)
        · intro a' w' hs hp he
          try simp [Is, Region.binds] at he
          refine op_val rfl (wanted_none rfl) (by go_simp; exact ⟨rfl, rfl⟩) ?_ ((Pu.refl _).alloc _); exact ⟨_, rfl, Row.newAt _ _ _ _ rfl rfl, by have := hp.size; simp at this; omega⟩
      case hend =>
        intro a' w' hdef hsz hs hp hall
        obtain ⟨r0, r1, r2, r3, r4, r5, r6, r7, r8, r9, r10, r11, -⟩ := hall
        obtain ⟨g11, rv11, row11⟩ := r11
        have hA := agree_done (agree_step (agree_step (agree_step (agree_step (agree_step (agree_step (agree_step (agree_step (agree_step (agree_step (agree_step (agree_step (agree_init [20, 21, 22, 23, 24, 25, 26, 27, 28, 29, 30, 4] hsz hs (by kernel_rfl)) r0) r1) r2) r3) r4) r5) r6) r7) r8) r9) r10) rv11)
        have ha := act_of hA hdef
        rw [ha]
        clear ha hA hs hsz hdef r0 r1 r2 r3 r4 r5 r6 r7 r8 r9 r10 rv11
        (try simp only [List.setIfInBounds_toArray])
        (try dsimp only [List.set_cons_zero, List.set_cons_succ])
        (try simp only [Exit.then])
        have hst := row11.1.store (P := Tryz.prog) 32 0 [S u, S n] (by exact hi) (by simp) (by simp [Value.oneCell']); refine op_store rfl rfl 32 (.tmp 4) (.tmp 30) rfl ⟨g11, 0, none⟩ (by rfl) (by rfl) hst ?_
        (try simp only [Exit.inBlock, Exit.then])
        have hr5 := Row.setCells [S u, S n] 0 w' _ row11.1
        rw [splice_all (by rfl)] at hr5
        have hp5 : Below w.heap.size w (w'.setCells g11 0 [S u, S n]) := (Chg.setCells g11 [S u, S n] 0 w').below (hp0.trans hp) (Nat.le_of_succ_le row11.2)
        have hr0 := ((Row.newAt w w.heap.size #[.string ⟨#[]⟩, .string ⟨#[]⟩] 32 rfl rfl).pu hp).other ((Chg.setCells g11 [S u, S n] 0 w').block w.heap.size (by have := row11.2; omega))
        obtain ⟨w5, hw5⟩ : ∃ x, x = w'.setCells g11 0 [S u, S n] := ⟨_, rfl⟩
        rw [← hw5] at hr5 hp5 hr0 ⊢
        clear hw5 hp
        go_wp2_with (first
          | (refine wpList_load_row rfl 32 (.tmp 4) rfl g11 [S u, S n] (by rfl) hr5 Tryz.underlying32 rfl hi ?_)
          | (refine wpList_load_row rfl 32 (.tmp 4) rfl g11 [S u, S n] (by rfl) (hr5.pu hp6) Tryz.underlying32 rfl hi ?_)
          | (go_at_call 15; refine (HP.out _).mono ?_; rintro e w6 ⟨rfl, hp6⟩)
          | (refine wpList_store_part rfl 32 (.tmp 2) (.tmp 44) rfl w.heap.size 0 [S u, S n] (by rfl) (by rfl) (hr0.pu hp6) hi (by simp) (by simp [Value.oneCell']) ?_; intro w7 hr7 hch7)
          | (refine wpList_store_part rfl 32 (.tmp 2) (.tmp 43) rfl w.heap.size 0 [S [], S []] (by rfl) (by rfl) (hr0.pu hp6) hi (by simp) (by simp [Value.oneCell']) ?_; intro w7 hr7 hch7))
        rw [splice_all (by rfl)] at hr7
        have hrl := hr7.load (P := Tryz.prog) 32 0 2 Tryz.underlying32 rfl hi (by simp)
        (try simp only [Exit.inBlock, Exit.then])
        refine bodyPost_ret (results_cell_slot rfl _ _ rfl rfl hrl) rfl ?_
        exact ⟨rfl, hch7.below (Pu.trans hp5 hp6) (Nat.le_refl _)⟩
    · rw [e9, if_neg (fun h => h5 h.1)]
      have hne : ¬ bs (helloL u n) = bs b := fun h => by
        have h6 := bs_inj h
        rw [hte] at h6
        apply h5
        rw [← h6]; rfl
      have hne2 : (helloL u n == b) = false := by
        have : helloL u n ≠ b := fun h => hne (by rw [h])
        simpa using this
      obtain ⟨t, ht⟩ : ∃ t, t = helloL u n := ⟨_, rfl⟩
      rw [← ht] at hph' hne hne2
      have HP := Lib.hid hph'
      clear hph hph' hhr hte hbe h5 e9 hul hnl hu hn hA h3 hgd hd h4 ht
      go_enter Tryz.func36, Tryz.ntmps36
      go_wp2_with fail
      apply region_last (n := 12) (hn := by kernel_rfl) (hlast := rfl) (hU := by kernel_rfl) (Φs := (Is _ :: Is _ :: Is _ :: Is _ :: Is _ :: Is _ :: Is _ :: Is _ :: Is _ :: Is _ :: Is _ :: IsPtrB (w.heap.size + 1) 32 [S [], S []] :: [])) (hm := by kernel_rfl) (hE := by kernel_rfl) (hD := by kernel_rfl) (hsize := by kernel_rfl)
      case hop =>
        refine ⟨?_, ?_, ?_, ?_, ?_, ?_, ?_, ?_, ?_, ?_, ?_, ?_, trivial⟩
        · intro a' w' hs hp he
          have e0 := hs 0 (by kernel_rfl)
          try simp [Is, Region.binds] at he
          exact op_val rfl (wanted_none rfl) (by first | (go_simp; done) | (go_simp; rfl) | (simp [execOp, Act.eval, go_sem, *]; done) | (simp [execOp, Act.eval, go_sem, *]; rfl)) rfl (Pu.refl _)
        · intro a' w' hs hp he
          have e0 := hs 0 (by kernel_rfl)
          try simp [Is, Region.binds] at he
          exact op_val rfl (wanted_none rfl) (by first | (go_simp; done) | (go_simp; rfl) | (simp [execOp, Act.eval, go_sem, *]; done) | (simp [execOp, Act.eval, go_sem, *]; rfl)) rfl (Pu.refl _)
        · intro a' w' hs hp he
          try simp [Is, Region.binds] at he
          exact op_val rfl (wanted_none rfl) (by first | (go_simp; done) | (go_simp; rfl) | (simp [execOp, Act.eval, go_sem, *]; done) | (simp [execOp, Act.eval, go_sem, *]; rfl)) rfl (Pu.refl _)
        · intro a' w' hs hp he
          try simp [Is, Region.binds] at he
          exact op_val rfl (wanted_none rfl) (by first | (go_simp; done) | (go_simp; rfl) | (simp [execOp, Act.eval, go_sem, *]; done) | (simp [execOp, Act.eval, go_sem, *]; rfl)) rfl (Pu.refl _)
        · intro a' w' hs hp he
          try simp [Is, Region.binds] at he
          exact op_val rfl (wanted_none rfl) (by first | (go_simp; done) | (go_simp; rfl) | (simp [execOp, Act.eval, go_sem, *]; done) | (simp [execOp, Act.eval, go_sem, *]; rfl)) rfl (Pu.refl _)
        · intro a' w' hs hp he
          have e0 := hs 0 (by kernel_rfl)
          try simp [Is, Region.binds] at he
          exact op_val rfl (wanted_none rfl) (by first | (go_simp; done) | (go_simp; rfl) | (simp [execOp, Act.eval, go_sem, *]; done) | (simp [execOp, Act.eval, go_sem, *]; rfl)) rfl (Pu.refl _)
        · intro a' w' hs hp he
          have e0 := hs 0 (by kernel_rfl)
          try simp [Is, Region.binds] at he
          exact op_val rfl (wanted_none rfl) (by first | (go_simp; done) | (go_simp; rfl) | (simp [execOp, Act.eval, go_sem, *]; done) | (simp [execOp, Act.eval, go_sem, *]; rfl)) rfl (Pu.refl _)
        · intro a' w' hs hp he
          try simp [Is, Region.binds] at he
          exact op_val rfl (wanted_none rfl) (by first | (go_simp; done) | (go_simp; rfl) | (simp [execOp, Act.eval, go_sem, *]; done) | (simp [execOp, Act.eval, go_sem, *]; rfl)) rfl (Pu.refl _)
        · intro a' w' hs hp he
          try simp [Is, Region.binds] at he
          exact op_val rfl (wanted_none rfl) (by first | (go_simp; done) | (go_simp; rfl) | (simp [execOp, Act.eval, go_sem, *]; done) | (simp [execOp, Act.eval, go_sem, *]; rfl)) rfl (Pu.refl _)
        · intro a' w' hs hp he
          try simp [Is, Region.binds] at he
          exact op_val rfl (wanted_none rfl) (by first | (go_simp; done) | (go_simp; rfl) | (simp [execOp, Act.eval, go_sem, *]; done) | (simp [execOp, Act.eval, go_sem, *]; rfl)) rfl (Pu.refl _)
        · intro a' w' hs hp he
          try simp [Is, Region.binds] at he
          exact op_val rfl (wanted_none rfl) (by first | (go_simp; done) | (go_simp; rfl) | (simp [execOp, Act.eval, go_sem, *]; done) | (simp [execOp, Act.eval, go_sem, *]; rfl)) rfl (Pu.refl _)
        · intro a' w' hs hp he
          try simp [Is, Region.binds] at he
          refine op_val rfl (wanted_none rfl) (by go_simp; exact ⟨rfl, rfl⟩) ?_ ((Pu.refl _).alloc _); exact ⟨_, rfl, Row.newAt _ _ _ _ rfl rfl, by have := hp.size; simp at this; omega⟩
      case hend =>
        intro a' w' hdef hsz hs hp hall
        obtain ⟨r0, r1, r2, r3, r4, r5, r6, r7, r8, r9, r10, r11, -⟩ := hall
        obtain ⟨g11, rv11, row11⟩ := r11
        have hA := agree_done (agree_step (agree_step (agree_step (agree_step (agree_step (agree_step (agree_step (agree_step (agree_step (agree_step (agree_step (agree_step (agree_init [20, 21, 22, 23, 24, 25, 26, 27, 28, 29, 30, 4] hsz hs (by kernel_rfl)) r0) r1) r2) r3) r4) r5) r6) r7) r8) r9) r10) rv11)
        have ha := act_of hA hdef
        rw [ha]
        clear ha hA hs hsz hdef r0 r1 r2 r3 r4 r5 r6 r7 r8 r9 r10 rv11
        (try simp only [List.setIfInBounds_toArray])
        (try dsimp only [List.set_cons_zero, List.set_cons_succ])
        (try simp only [Exit.then])
        have hst := row11.1.store (P := Tryz.prog) 32 0 [S u, S n] (by exact hi) (by simp) (by simp [Value.oneCell']); refine op_store rfl rfl 32 (.tmp 4) (.tmp 30) rfl ⟨g11, 0, none⟩ (by rfl) (by rfl) hst ?_
        (try simp only [Exit.inBlock, Exit.then])
        have hr5 := Row.setCells [S u, S n] 0 w' _ row11.1
        rw [splice_all (by rfl)] at hr5
        have hp5 : Below w.heap.size w (w'.setCells g11 0 [S u, S n]) := (Chg.setCells g11 [S u, S n] 0 w').below (hp0.trans hp) (Nat.le_of_succ_le row11.2)
        have hr0 := ((Row.newAt w w.heap.size #[.string ⟨#[]⟩, .string ⟨#[]⟩] 32 rfl rfl).pu hp).other ((Chg.setCells g11 [S u, S n] 0 w').block w.heap.size (by have := row11.2; omega))
        obtain ⟨w5, hw5⟩ : ∃ x, x = w'.setCells g11 0 [S u, S n] := ⟨_, rfl⟩
        rw [← hw5] at hr5 hp5 hr0 ⊢
        clear hw5 hp
        go_wp2_with (first
          | (refine wpList_load_row rfl 32 (.tmp 4) rfl g11 [S u, S n] (by rfl) hr5 Tryz.underlying32 rfl hi ?_)
          | (refine wpList_load_row rfl 32 (.tmp 4) rfl g11 [S u, S n] (by rfl) (hr5.pu hp6) Tryz.underlying32 rfl hi ?_)
          | (go_at_call 15; refine (HP.out _).mono ?_; rintro e w6 ⟨rfl, hp6⟩)
          | (refine wpList_store_part rfl 32 (.tmp 2) (.tmp 44) rfl w.heap.size 0 [S u, S n] (by rfl) (by rfl) (hr0.pu hp6) hi (by simp) (by simp [Value.oneCell']) ?_; intro w7 hr7 hch7)
          | (refine wpList_store_part rfl 32 (.tmp 2) (.tmp 43) rfl w.heap.size 0 [S [], S []] (by rfl) (by rfl) (hr0.pu hp6) hi (by simp) (by simp [Value.oneCell']) ?_; intro w7 hr7 hch7))
        rw [splice_all (by rfl)] at hr7
        have hrl := hr7.load (P := Tryz.prog) 32 0 2 Tryz.underlying32 rfl hi (by simp)
        (try simp only [Exit.inBlock, Exit.then])
        refine bodyPost_ret (results_cell_slot rfl _ _ rfl rfl hrl) rfl ?_
        exact ⟨rfl, hch7.below (Pu.trans hp5 hp6) (Nat.le_refl _)⟩
  · rw [e9, if_neg (fun h => h4 h.2)]
    have hhr : helloR u n = none := by unfold helloR; rw [if_neg (fun h => h4 ⟨by have := h.2.1; omega, by have := h.2.2; omega⟩)]
    rw [hhr] at hph
    have hph' : ∀ w, Calls Tryz.prog 15 #[.agg #[S u, S n]] w fun e w' => e = .returned (.tuple #[S [], .bool false]) ∧ Pu w w' := hph
    have HP := Lib.hid hph'
    clear hph hph' hhr hbe e9 hul hnl hu hn hA h3 hgd hd h4
    go_enter Tryz.func36, Tryz.ntmps36
    go_wp2_with fail
    apply region_last (n := 12) (hn := by kernel_rfl) (hlast := rfl) (hU := by kernel_rfl) (Φs := (Is _ :: Is _ :: Is _ :: Is _ :: Is _ :: Is _ :: Is _ :: Is _ :: Is _ :: Is _ :: Is _ :: IsPtrB (w.heap.size + 1) 32 [S [], S []] :: [])) (hm := by kernel_rfl) (hE := by kernel_rfl) (hD := by kernel_rfl) (hsize := by kernel_rfl)
    case hop =>
      refine ⟨?_, ?_, ?_, ?_, ?_, ?_, ?_, ?_, ?_, ?_, ?_, ?_, trivial⟩
      · intro a' w' hs hp he
        have e0 := hs 0 (by kernel_rfl)
        try simp [Is, Region.binds] at he
        exact op_val rfl (wanted_none rfl) (by first | (go_simp; done) | (go_simp; rfl) | (simp [execOp, Act.eval, go_sem, *]; done) | (simp [execOp, Act.eval, go_sem, *]; rfl)) rfl (Pu.refl _)
      · intro a' w' hs hp he
        have e0 := hs 0 (by kernel_rfl)
        try simp [Is, Region.binds] at he
        exact op_val rfl (wanted_none rfl) (by first | (go_simp; done) | (go_simp; rfl) | (simp [execOp, Act.eval, go_sem, *]; done) | (simp [execOp, Act.eval, go_sem, *]; rfl)) rfl (Pu.refl _)
      · intro a' w' hs hp he
        try simp [Is, Region.binds] at he
        exact op_val rfl (wanted_none rfl) (by first | (go_simp; done) | (go_simp; rfl) | (simp [execOp, Act.eval, go_sem, *]; done) | (simp [execOp, Act.eval, go_sem, *]; rfl)) rfl (Pu.refl _)
      · intro a' w' hs hp he
        try simp [Is, Region.binds] at he
        exact op_val rfl (wanted_none rfl) (by first | (go_simp; done) | (go_simp; rfl) | (simp [execOp, Act.eval, go_sem, *]; done) | (simp [execOp, Act.eval, go_sem, *]; rfl)) rfl (Pu.refl _)
      · intro a' w' hs hp he
        try simp [Is, Region.binds] at he
        exact op_val rfl (wanted_none rfl) (by first | (go_simp; done) | (go_simp; rfl) | (simp [execOp, Act.eval, go_sem, *]; done) | (simp [execOp, Act.eval, go_sem, *]; rfl)) rfl (Pu.refl _)
      · intro a' w' hs hp he
        have e0 := hs 0 (by kernel_rfl)
        try simp [Is, Region.binds] at he
        exact op_val rfl (wanted_none rfl) (by first | (go_simp; done) | (go_simp; rfl) | (simp [execOp, Act.eval, go_sem, *]; done) | (simp [execOp, Act.eval, go_sem, *]; rfl)) rfl (Pu.refl _)
      · intro a' w' hs hp he
        have e0 := hs 0 (by kernel_rfl)
        try simp [Is, Region.binds] at he
        exact op_val rfl (wanted_none rfl) (by first | (go_simp; done) | (go_simp; rfl) | (simp [execOp, Act.eval, go_sem, *]; done) | (simp [execOp, Act.eval, go_sem, *]; rfl)) rfl (Pu.refl _)
      · intro a' w' hs hp he
        try simp [Is, Region.binds] at he
        exact op_val rfl (wanted_none rfl) (by first | (go_simp; done) | (go_simp; rfl) | (simp [execOp, Act.eval, go_sem, *]; done) | (simp [execOp, Act.eval, go_sem, *]; rfl)) rfl (Pu.refl _)
      · intro a' w' hs hp he
        try simp [Is, Region.binds] at he
        exact op_val rfl (wanted_none rfl) (by first | (go_simp; done) | (go_simp; rfl) | (simp [execOp, Act.eval, go_sem, *]; done) | (simp [execOp, Act.eval, go_sem, *]; rfl)) rfl (Pu.refl _)
      · intro a' w' hs hp he
        try simp [Is, Region.binds] at he
        exact op_val rfl (wanted_none rfl) (by first | (go_simp; done) | (go_simp; rfl) | (simp [execOp, Act.eval, go_sem, *]; done) | (simp [execOp, Act.eval, go_sem, *]; rfl)) rfl (Pu.refl _)
      · intro a' w' hs hp he
        try simp [Is, Region.binds] at he
        exact op_val rfl (wanted_none rfl) (by first | (go_simp; done) | (go_simp; rfl) | (simp [execOp, Act.eval, go_sem, *]; done) | (simp [execOp, Act.eval, go_sem, *]; rfl)) rfl (Pu.refl _)
      · intro a' w' hs hp he
        try simp [Is, Region.binds] at he
        refine op_val rfl (wanted_none rfl) (by go_simp; exact ⟨rfl, rfl⟩) ?_ ((Pu.refl _).alloc _); exact ⟨_, rfl, Row.newAt _ _ _ _ rfl rfl, by have := hp.size; simp at this; omega⟩
    case hend =>
      intro a' w' hdef hsz hs hp hall
      obtain ⟨r0, r1, r2, r3, r4, r5, r6, r7, r8, r9, r10, r11, -⟩ := hall
      obtain ⟨g11, rv11, row11⟩ := r11
      have hA := agree_done (agree_step (agree_step (agree_step (agree_step (agree_step (agree_step (agree_step (agree_step (agree_step (agree_step (agree_step (agree_step (agree_init [20, 21, 22, 23, 24, 25, 26, 27, 28, 29, 30, 4] hsz hs (by kernel_rfl)) r0) r1) r2) r3) r4) r5) r6) r7) r8) r9) r10) rv11)
      have ha := act_of hA hdef
      rw [ha]
      clear ha hA hs hsz hdef r0 r1 r2 r3 r4 r5 r6 r7 r8 r9 r10 rv11
      (try simp only [List.setIfInBounds_toArray])
      (try dsimp only [List.set_cons_zero, List.set_cons_succ])
      (try simp only [Exit.then])
      have hst := row11.1.store (P := Tryz.prog) 32 0 [S u, S n] (by exact hi) (by simp) (by simp [Value.oneCell']); refine op_store rfl rfl 32 (.tmp 4) (.tmp 30) rfl ⟨g11, 0, none⟩ (by rfl) (by rfl) hst ?_
      (try simp only [Exit.inBlock, Exit.then])
      have hr5 := Row.setCells [S u, S n] 0 w' _ row11.1
      rw [splice_all (by rfl)] at hr5
      have hp5 : Below w.heap.size w (w'.setCells g11 0 [S u, S n]) := (Chg.setCells g11 [S u, S n] 0 w').below (hp0.trans hp) (Nat.le_of_succ_le row11.2)
      have hr0 := ((Row.newAt w w.heap.size #[.string ⟨#[]⟩, .string ⟨#[]⟩] 32 rfl rfl).pu hp).other ((Chg.setCells g11 [S u, S n] 0 w').block w.heap.size (by have := row11.2; omega))
      obtain ⟨w5, hw5⟩ : ∃ x, x = w'.setCells g11 0 [S u, S n] := ⟨_, rfl⟩
      rw [← hw5] at hr5 hp5 hr0 ⊢
      clear hw5 hp
      go_wp2_with (first
        | (refine wpList_load_row rfl 32 (.tmp 4) rfl g11 [S u, S n] (by rfl) hr5 Tryz.underlying32 rfl hi ?_)
        | (refine wpList_load_row rfl 32 (.tmp 4) rfl g11 [S u, S n] (by rfl) (hr5.pu hp6) Tryz.underlying32 rfl hi ?_)
        | (go_at_call 15; refine (HP.out _).mono ?_; rintro e w6 ⟨rfl, hp6⟩)
        | (refine wpList_store_part rfl 32 (.tmp 2) (.tmp 44) rfl w.heap.size 0 [S u, S n] (by rfl) (by rfl) (hr0.pu hp6) hi (by simp) (by simp [Value.oneCell']) ?_; intro w7 hr7 hch7)
        | (refine wpList_store_part rfl 32 (.tmp 2) (.tmp 43) rfl w.heap.size 0 [S [], S []] (by rfl) (by rfl) (hr0.pu hp6) hi (by simp) (by simp [Value.oneCell']) ?_; intro w7 hr7 hch7))
      rw [splice_all (by rfl)] at hr7
      have hrl := hr7.load (P := Tryz.prog) 32 0 2 Tryz.underlying32 rfl hi (by simp)
      (try simp only [Exit.inBlock, Exit.then])
      refine bodyPost_ret (results_cell_slot rfl _ _ rfl rfl hrl) rfl ?_
      exact ⟨rfl, hch7.below (Pu.trans hp5 hp6) (Nat.le_refl _)⟩
end Go.Proofs.YtlbdbmnkjljohaaGreat
