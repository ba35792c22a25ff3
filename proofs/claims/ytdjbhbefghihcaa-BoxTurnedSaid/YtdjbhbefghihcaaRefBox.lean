/- The document's Xor, streams and boxes. -/
import Derived.Test.YtdjbhbefghihcaaRefTag
import Derived.Test.YtdjbhbefghihcaaBox2
set_option linter.unusedSimpArgs false
set_option linter.unusedVariables false
namespace Go.Proofs.Ytdjbhbefghihcaa
open Go.RowKit Go.Esc
set_option maxRecDepth 100000 in
set_option maxHeartbeats 1600000 in
theorem refXor_of (a b : Bs) (n : Nat) (hab : (b.length = n ∧ n < a.length) ∨ (a.length = n ∧ n ≤ b.length)) (hn : n ≤ 1000000) (w : World) :
    Calls Try.prog 96 #[S a, S b] w fun e w' => e = .returned (S (xorL a b)) ∧ Pu w w' := by
  obtain ⟨i0, hi, hz0, hz1, hz2⟩ := info_parts infoB
  obtain ⟨z, hz⟩ : ∃ z, z = xorL a b := ⟨_, rfl⟩
  have hzl : z.length = n := by rw [hz, xorL_length]; omega
  have hzg : ∀ (k : Nat) (h : k < n) (h1 : k < a.length) (h2 : k < b.length), z[k]'(by omega) = a[k] ^^^ b[k] := by
    intro k h h1 h2; simp only [hz, xorL, List.getElem_zipWith]
  rw [← hz]
  have HZG := Lib.hid hzg
  clear hz hzg
  rcases hab with ⟨hbn, hlt⟩ | ⟨hbn, hlt⟩
  · have hlt' : (n : Int) < a.length := by omega
    have hmin : min (a.length : Int) (n : Int) = n := by omega
    go_enter Try.func96, Try.ntmps96
    go_wp2_with (at_make; refine wpList_make_full _ rfl _ _ 27 rfl w.heap.size 5 i0 (.int .u8 0) 1 Try.underlying27 hi hz0 hz1 _ _ _ _ n rfl rfl rfl rfl (by rw [hz2]; omega) (by unfold maxLen; omega) (Nat.le_refl _) ?_; intro w1 hown hgrow)
    go_loopw [7] (fun i wr => ∃ k : Nat, k ≤ n ∧ i = .int .i64 k ∧ wr.ownsRow w.heap.size 5 1 (.slice (some ⟨w.heap.size, 0, none⟩) n n) n (cells (xorArr z k)) ∧ Below w.heap.size w wr) (fun i _ => n - (intOf i).toNat)
    case atStart => exact ⟨0, Nat.zero_le _, rfl, by rw [madeZ] at hown; simpa [xorArr, hzl] using hown, (Below.refl _ _).grown hgrow (Nat.le_refl _) (by simp)⟩
    case round =>
      clear hown hgrow
      obtain ⟨k, hk, rfl, hown, hbel⟩ := hrel
      by_cases hkn : k < n
      · have ha1 : k < a.length := by omega
        have hb1 : k < b.length := by omega
        have hz1' : k < z.length := by omega
        obtain ⟨x, hx⟩ : ∃ x, a[k] = x := ⟨_, rfl⟩
        obtain ⟨y, hy⟩ : ∃ y, b[k] = y := ⟨_, rfl⟩
        obtain ⟨v, hv⟩ : ∃ v, z[k] = v := ⟨_, rfl⟩
        have hxy : Go.bits .xor .u8 (x.toNat : Int) (y.toNat : Int) = (v.toNat : Int) := by
          rw [xor_val, ← hv, HZG.out k hkn ha1 hb1, hx, hy]
        have hset := xorArr_set z k hz1'
        rw [hv] at hset
        have hal := xorArr_length z k (by omega)
        have HSET := Lib.hid hset
        have ha2 : (k : Int) < a.length := by omega
        have hb2 : (k : Int) < b.length := by omega
        have hk0 : (0 : Int) ≤ k := by omega
        have hkn' : (k : Int) < n := by omega
        clear hset hv
        go_wp2_with fail
        apply region_last (n := 10) (hn := by kernel_rfl) (hlast := rfl) (hU := by kernel_rfl) (Φs := (Is _ :: Is _ :: Is _ :: Is _ :: Is _ :: Is _ :: Is _ :: Is _ :: Is _ :: Is _ :: [])) (hm := by kernel_rfl) (hE := by kernel_rfl) (hD := by kernel_rfl) (hsize := by kernel_rfl)
        case hop =>
          refine ⟨?_, ?_, ?_, ?_, ?_, ?_, ?_, ?_, ?_, ?_, trivial⟩
          · intro a' w' hs hp he
            have e6 := hs 6 (by kernel_rfl)
            try simp [Is, Region.binds] at he
            exact op_val rfl (wanted_none rfl) (by first | (go_simp; done) | (go_simp; rfl) | (simp [execOp, Act.eval, go_sem, *]; done) | (simp [execOp, Act.eval, go_sem, *]; rfl)) rfl (Pu.refl _)
          · intro a' w' hs hp he
            have e7 := hs 7 (by kernel_rfl)
            try simp [Is, Region.binds] at he
            exact op_val rfl (wanted_none rfl) (by first | (go_simp; done) | (go_simp; rfl) | (simp [execOp, Act.eval, go_sem, *]; done) | (simp [execOp, Act.eval, go_sem, *]; rfl)) rfl (Pu.refl _)
          · intro a' w' hs hp he
            have e0 := hs 0 (by kernel_rfl)
            try simp [Is, Region.binds] at he
            exact op_val rfl (wanted_none rfl) (by first | (go_simp; done) | (go_simp; rfl) | (simp [execOp, Act.eval, go_sem, *]; done) | (simp [execOp, Act.eval, go_sem, *]; rfl)) rfl (Pu.refl _)
          · intro a' w' hs hp he
            have e7 := hs 7 (by kernel_rfl)
            try simp [Is, Region.binds] at he
            exact op_val rfl (wanted_none rfl) (by first | (go_simp; done) | (go_simp; rfl) | (simp [execOp, Act.eval, go_sem, *]; done) | (simp [execOp, Act.eval, go_sem, *]; rfl)) rfl (Pu.refl _)
          · intro a' w' hs hp he
            try simp [Is, Region.binds] at he
            exact op_val rfl (wanted_none rfl) (by first | (go_simp; done) | (go_simp; rfl) | (simp [execOp, Act.eval, go_sem, *]; done) | (simp [execOp, Act.eval, go_sem, *]; rfl)) rfl (Pu.refl _)
          · intro a' w' hs hp he
            have e1 := hs 1 (by kernel_rfl)
            try simp [Is, Region.binds] at he
            exact op_val rfl (wanted_none rfl) (by first | (go_simp; done) | (go_simp; rfl) | (simp [execOp, Act.eval, go_sem, *]; done) | (simp [execOp, Act.eval, go_sem, *]; rfl)) rfl (Pu.refl _)
          · intro a' w' hs hp he
            have e7 := hs 7 (by kernel_rfl)
            try simp [Is, Region.binds] at he
            exact op_val rfl (wanted_none rfl) (by first | (go_simp; done) | (go_simp; rfl) | (simp [execOp, Act.eval, go_sem, *]; done) | (simp [execOp, Act.eval, go_sem, *]; rfl)) rfl (Pu.refl _)
          · intro a' w' hs hp he
            try simp [Is, Region.binds] at he
            exact op_val rfl (wanted_none rfl) (by first | (go_simp; done) | (go_simp; rfl) | (simp [execOp, Act.eval, go_sem, *]; done) | (simp [execOp, Act.eval, go_sem, *]; rfl)) rfl (Pu.refl _)
          · intro a' w' hs hp he
            try simp [Is, Region.binds] at he
            exact op_val rfl (wanted_none rfl) (by first | (go_simp; done) | (go_simp; rfl) | (simp [execOp, Act.eval, go_sem, *]; done) | (simp [execOp, Act.eval, go_sem, *]; rfl)) rfl (Pu.refl _)
          · intro a' w' hs hp he
            try simp [Is, Region.binds] at he
            exact op_val rfl (wanted_none rfl) (by first | (go_simp; done) | (go_simp; rfl) | (simp [execOp, Act.eval, go_sem, *]; done) | (simp [execOp, Act.eval, go_sem, *]; rfl)) rfl (Pu.refl _)
        case hend =>
          intro a' w' hdef hsz hs hp hall
          obtain ⟨r0, r1, r2, r3, r4, r5, r6, r7, r8, r9, -⟩ := hall
          have hA := agree_done (agree_step (agree_step (agree_step (agree_step (agree_step (agree_step (agree_step (agree_step (agree_step (agree_step (agree_init [20, 21, 22, 23, 24, 25, 26, 27, 28, 29] hsz hs (by kernel_rfl)) r0) r1) r2) r3) r4) r5) r6) r7) r8) r9)
          have ha := act_of hA hdef
          rw [ha]
          clear ha hA hs hsz hdef r0 r1 r2 r3 r4 r5 r6 r7 r8 r9 
          (try simp only [List.setIfInBounds_toArray])
          (try dsimp only [List.set_cons_zero, List.set_cons_succ])
          (try simp only [Exit.then])
          have hown' := own_pu hown hp; obtain ⟨v0, hcl⟩ : ∃ v0, w'.cell? ⟨w.heap.size, k, none⟩ = some v0 := (by have hcl := hown'.cellAt k (by omega); rw [cells_get _ _ (by omega)] at hcl; exact ⟨_, hcl⟩); have hf := hown'.frozenAt k; have hst := hown'.stored k (.int .u8 (v.toNat : Int)); rw [cells_set, HSET.out] at hst
          refine op_done rfl (wanted_none rfl) (by first | (go_simp; done) | (go_simp; rfl)) ?_
          (try simp only [Exit.inBlock, Exit.then])
          go_wp2_with fail
          go_roundw
          case rel => exact ⟨k + 1, by omega, by go_num, hst.1, (hbel.trans (Below.mono hp hbel.size)).grown hst.2 (by have := hbel.size; have := hp.size; omega) (by simp)⟩
          case measure => simp [intOf]; omega
      · obtain rfl : k = n := by omega
        have he : xorArr z k = z := by simp [xorArr, ← hzl]
        rw [he] at hown
        have hcv := own_conv (P := Try.prog) 27 9 hown Try.underlying27 Try.underlying5 Try.underlying9
        clear he
        go_wp2_with fail
        go_ret
        exact ⟨rfl, hbel⟩
  · have hlt' : (n : Int) ≤ b.length := by omega
    have hlt2 : decide ((b.length : Int) < n) = false := by simp; omega
    have hmin : min (n : Int) (b.length : Int) = n := by omega
    go_enter Try.func96, Try.ntmps96
    go_wp2_with (at_make; refine wpList_make_full _ rfl _ _ 27 rfl w.heap.size 5 i0 (.int .u8 0) 1 Try.underlying27 hi hz0 hz1 _ _ _ _ n rfl rfl rfl rfl (by rw [hz2]; omega) (by unfold maxLen; omega) (Nat.le_refl _) ?_; intro w1 hown hgrow)
    go_loopw [7] (fun i wr => ∃ k : Nat, k ≤ n ∧ i = .int .i64 k ∧ wr.ownsRow w.heap.size 5 1 (.slice (some ⟨w.heap.size, 0, none⟩) n n) n (cells (xorArr z k)) ∧ Below w.heap.size w wr) (fun i _ => n - (intOf i).toNat)
    case atStart => exact ⟨0, Nat.zero_le _, rfl, by rw [madeZ] at hown; simpa [xorArr, hzl] using hown, (Below.refl _ _).grown hgrow (Nat.le_refl _) (by simp)⟩
    case round =>
      clear hown hgrow
      obtain ⟨k, hk, rfl, hown, hbel⟩ := hrel
      by_cases hkn : k < n
      · have ha1 : k < a.length := by omega
        have hb1 : k < b.length := by omega
        have hz1' : k < z.length := by omega
        obtain ⟨x, hx⟩ : ∃ x, a[k] = x := ⟨_, rfl⟩
        obtain ⟨y, hy⟩ : ∃ y, b[k] = y := ⟨_, rfl⟩
        obtain ⟨v, hv⟩ : ∃ v, z[k] = v := ⟨_, rfl⟩
        have hxy : Go.bits .xor .u8 (x.toNat : Int) (y.toNat : Int) = (v.toNat : Int) := by
          rw [xor_val, ← hv, HZG.out k hkn ha1 hb1, hx, hy]
        have hset := xorArr_set z k hz1'
        rw [hv] at hset
        have hal := xorArr_length z k (by omega)
        have HSET := Lib.hid hset
        have ha2 : (k : Int) < a.length := by omega
        have hb2 : (k : Int) < b.length := by omega
        have hk0 : (0 : Int) ≤ k := by omega
        have hkn' : (k : Int) < n := by omega
        clear hset hv
        go_wp2_with fail
        apply region_last (n := 10) (hn := by kernel_rfl) (hlast := rfl) (hU := by kernel_rfl) (Φs := (Is _ :: Is _ :: Is _ :: Is _ :: Is _ :: Is _ :: Is _ :: Is _ :: Is _ :: Is _ :: [])) (hm := by kernel_rfl) (hE := by kernel_rfl) (hD := by kernel_rfl) (hsize := by kernel_rfl)
        case hop =>
          refine ⟨?_, ?_, ?_, ?_, ?_, ?_, ?_, ?_, ?_, ?_, trivial⟩
          · intro a' w' hs hp he
            have e6 := hs 6 (by kernel_rfl)
            try simp [Is, Region.binds] at he
            exact op_val rfl (wanted_none rfl) (by first | (go_simp; done) | (go_simp; rfl) | (simp [execOp, Act.eval, go_sem, *]; done) | (simp [execOp, Act.eval, go_sem, *]; rfl)) rfl (Pu.refl _)
          · intro a' w' hs hp he
            have e7 := hs 7 (by kernel_rfl)
            try simp [Is, Region.binds] at he
            exact op_val rfl (wanted_none rfl) (by first | (go_simp; done) | (go_simp; rfl) | (simp [execOp, Act.eval, go_sem, *]; done) | (simp [execOp, Act.eval, go_sem, *]; rfl)) rfl (Pu.refl _)
          · intro a' w' hs hp he
            have e0 := hs 0 (by kernel_rfl)
            try simp [Is, Region.binds] at he
            exact op_val rfl (wanted_none rfl) (by first | (go_simp; done) | (go_simp; rfl) | (simp [execOp, Act.eval, go_sem, *]; done) | (simp [execOp, Act.eval, go_sem, *]; rfl)) rfl (Pu.refl _)
          · intro a' w' hs hp he
            have e7 := hs 7 (by kernel_rfl)
            try simp [Is, Region.binds] at he
            exact op_val rfl (wanted_none rfl) (by first | (go_simp; done) | (go_simp; rfl) | (simp [execOp, Act.eval, go_sem, *]; done) | (simp [execOp, Act.eval, go_sem, *]; rfl)) rfl (Pu.refl _)
          · intro a' w' hs hp he
            try simp [Is, Region.binds] at he
            exact op_val rfl (wanted_none rfl) (by first | (go_simp; done) | (go_simp; rfl) | (simp [execOp, Act.eval, go_sem, *]; done) | (simp [execOp, Act.eval, go_sem, *]; rfl)) rfl (Pu.refl _)
          · intro a' w' hs hp he
            have e1 := hs 1 (by kernel_rfl)
            try simp [Is, Region.binds] at he
            exact op_val rfl (wanted_none rfl) (by first | (go_simp; done) | (go_simp; rfl) | (simp [execOp, Act.eval, go_sem, *]; done) | (simp [execOp, Act.eval, go_sem, *]; rfl)) rfl (Pu.refl _)
          · intro a' w' hs hp he
            have e7 := hs 7 (by kernel_rfl)
            try simp [Is, Region.binds] at he
            exact op_val rfl (wanted_none rfl) (by first | (go_simp; done) | (go_simp; rfl) | (simp [execOp, Act.eval, go_sem, *]; done) | (simp [execOp, Act.eval, go_sem, *]; rfl)) rfl (Pu.refl _)
          · intro a' w' hs hp he
            try simp [Is, Region.binds] at he
            exact op_val rfl (wanted_none rfl) (by first | (go_simp; done) | (go_simp; rfl) | (simp [execOp, Act.eval, go_sem, *]; done) | (simp [execOp, Act.eval, go_sem, *]; rfl)) rfl (Pu.refl _)
          · intro a' w' hs hp he
            try simp [Is, Region.binds] at he
            exact op_val rfl (wanted_none rfl) (by first | (go_simp; done) | (go_simp; rfl) | (simp [execOp, Act.eval, go_sem, *]; done) | (simp [execOp, Act.eval, go_sem, *]; rfl)) rfl (Pu.refl _)
          · intro a' w' hs hp he
            try simp [Is, Region.binds] at he
            exact op_val rfl (wanted_none rfl) (by first | (go_simp; done) | (go_simp; rfl) | (simp [execOp, Act.eval, go_sem, *]; done) | (simp [execOp, Act.eval, go_sem, *]; rfl)) rfl (Pu.refl _)
        case hend =>
          intro a' w' hdef hsz hs hp hall
          obtain ⟨r0, r1, r2, r3, r4, r5, r6, r7, r8, r9, -⟩ := hall
          have hA := agree_done (agree_step (agree_step (agree_step (agree_step (agree_step (agree_step (agree_step (agree_step (agree_step (agree_step (agree_init [20, 21, 22, 23, 24, 25, 26, 27, 28, 29] hsz hs (by kernel_rfl)) r0) r1) r2) r3) r4) r5) r6) r7) r8) r9)
          have ha := act_of hA hdef
          rw [ha]
          clear ha hA hs hsz hdef r0 r1 r2 r3 r4 r5 r6 r7 r8 r9 
          (try simp only [List.setIfInBounds_toArray])
          (try dsimp only [List.set_cons_zero, List.set_cons_succ])
          (try simp only [Exit.then])
          have hown' := own_pu hown hp; obtain ⟨v0, hcl⟩ : ∃ v0, w'.cell? ⟨w.heap.size, k, none⟩ = some v0 := (by have hcl := hown'.cellAt k (by omega); rw [cells_get _ _ (by omega)] at hcl; exact ⟨_, hcl⟩); have hf := hown'.frozenAt k; have hst := hown'.stored k (.int .u8 (v.toNat : Int)); rw [cells_set, HSET.out] at hst
          refine op_done rfl (wanted_none rfl) (by first | (go_simp; done) | (go_simp; rfl)) ?_
          (try simp only [Exit.inBlock, Exit.then])
          go_wp2_with fail
          go_roundw
          case rel => exact ⟨k + 1, by omega, by go_num, hst.1, (hbel.trans (Below.mono hp hbel.size)).grown hst.2 (by have := hbel.size; have := hp.size; omega) (by simp)⟩
          case measure => simp [intOf]; omega
      · obtain rfl : k = n := by omega
        have he : xorArr z k = z := by simp [xorArr, ← hzl]
        rw [he] at hown
        have hcv := own_conv (P := Try.prog) 27 9 hown Try.underlying27 Try.underlying5 Try.underlying9
        clear he
        go_wp2_with fail
        go_ret
        exact ⟨rfl, hbel⟩
theorem refXor (a b : Bs) (h : a.length ≤ 1000000 ∨ b.length ≤ 1000000) (w : World) :
    Calls Try.prog 96 #[S a, S b] w fun e w' => e = .returned (S (xorL a b)) ∧ Pu w w' := by
  by_cases hlt : b.length < a.length
  · exact refXor_of a b b.length (.inl ⟨rfl, hlt⟩) (by omega) w
  · exact refXor_of a b a.length (.inr ⟨rfl, by omega⟩) (by omega) w

theorem fineYes (key nonce : Bs) (h : fineL key nonce = true) (w : World) :
    Calls Try.prog 89 #[S key, S nonce] w fun e w' => e = .returned (.bool true) ∧ w' = w := by
  obtain ⟨hk, hn⟩ := fineL_of h
  clear h
  have h1 : (key.length : Int) = 32 := by omega
  have h2 : (nonce.length : Int) = 12 := by omega
  go_enter Try.func89, Try.ntmps89
  go_wp2_with fail
  go_ret
  exact ⟨rfl, rfl⟩
theorem fineNo (key nonce : Bs) (h : fineL key nonce = false) (w : World) :
    Calls Try.prog 89 #[S key, S nonce] w fun e w' => e = .returned (.bool false) ∧ w' = w := by
  rcases fineL_no h with hk | ⟨hk, hn⟩
  · clear h
    have h1 : ((key.length : Int) == 32) = false := by simp; omega
    have h2 : ¬ ((key.length : Int) = 32) := by omega
    go_enter Try.func89, Try.ntmps89
    go_wp2_with fail
    go_ret
    exact ⟨rfl, rfl⟩
  · clear h
    have h1 : (key.length : Int) = 32 := by omega
    have h2 : ¬ ((nonce.length : Int) = 12) := by omega
    have h3 : ((nonce.length : Int) == 12) = false := by simp; omega
    go_enter Try.func89, Try.ntmps89
    go_wp2_with fail
    go_ret
    exact ⟨rfl, rfl⟩
set_option maxRecDepth 100000 in
theorem refFilled (b : Bs) (hb : b.length ≤ 200000) (w : World) :
    Calls Try.prog 92 #[S b] w fun e w' => e = .returned (S (filledL b)) ∧ Pu w w' := by
  obtain ⟨r, hr⟩ : ∃ r, r = b.length % 16 := ⟨_, rfl⟩
  obtain ⟨z, hz⟩ : ∃ z, z = (16 - r) % 16 := ⟨_, rfl⟩
  have hfin : filledL b = b ++ List.replicate z 0 := by rw [filledL, ← hr, ← hz]
  have e1 : (b.length : Int).tmod 16 = r := by rw [Int.tmod_eq_emod_of_nonneg (by omega)]; omega
  have e1' : (b.length : Int) % 16 = r := by omega
  obtain ⟨d, hd⟩ : ∃ d, d = 16 - r := ⟨_, rfl⟩
  have e2 : (16 : Int) - r = d := by omega
  have e2' : IntKind.i64.wrap (d : Int) = d := by rw [IntKind.wrap_i64]; omega
  have e3 : (d : Int).tmod 16 = z := by rw [Int.tmod_eq_emod_of_nonneg (by omega)]; omega
  have e3' : (d : Int) % 16 = z := by omega
  have hR0 := fun w => refZeros z (by omega) w
  obtain ⟨zz, hzz⟩ : ∃ l, l = List.replicate z (0 : UInt8) := ⟨_, rfl⟩
  have hzl : zz.length = z := by rw [hzz]; simp
  rw [← hzz] at hR0 hfin
  have hz9 : ¬ (9223372036854775807 < b.length + zz.length) := by omega
  have hz8 : ¬ (9223372036854775807 < b.length + z) := by omega
  have HR := Lib.hid hR0
  have HF := Lib.hid hfin
  clear hR0 hfin hr hz hd hzz
  go_enter Try.func92, Try.ntmps92
  go_wp2_with (go_at_call 97; refine (HR.out _).mono ?_; rintro e w1 ⟨rfl, hp1⟩)
  go_ret
  exact ⟨by rw [HF.out]; rfl, hp1⟩
set_option maxRecDepth 100000 in
set_option maxHeartbeats 3200000 in
theorem refStream (key nonce b : Bs) (ctr : Nat) (h : fineL key nonce = true) (hc : ctr ≤ 1000) (hb : b.length ≤ 100000) (w : World) :
    Calls Try.prog 53 #[S key, .int .u32 (ctr : Int), S nonce, S b] w fun e w' => e = .returned (S (streamL key ctr nonce b)) ∧ Pu w w' := by
  obtain ⟨hk, hn⟩ := fineL_of h
  obtain ⟨tot, htot⟩ : ∃ t, t = streamL key ctr nonce b := ⟨_, rfl⟩
  have hlen : tot.length = b.length := by rw [htot, streamL_length]
  have HTOT := Lib.hid htot
  clear h htot
  have kem : (ByteArray.mk #[]) = bs [] := rfl
  go_enter Try.func53, Try.ntmps53
  go_wp2_with fail
  go_loopw [1, 9, 10] (fun cv ov av wr => ∃ (at' c : Nat) (out : Bs), cv = .int .u32 (c : Int) ∧ ov = S out ∧ av = .int .i64 (at' : Int) ∧ at' ≤ b.length + 63 ∧ c ≤ 1000 + at' ∧ out.length ≤ b.length ∧ out ++ streamL key c nonce (b.drop at') = tot ∧ Below w.heap.size w wr) (fun _ _ av _ => b.length + 64 - (intOf av).toNat)
  case atStart => exact ⟨0, ctr, [], rfl, rfl, rfl, by omega, by omega, by simp, by rw [List.nil_append]; exact HTOT.out.symm, Pu.refl w⟩
  case round =>
    obtain ⟨at', c, out, rfl, rfl, rfl, hat, hcl, hol, hps, hbel⟩ := hrel
    by_cases hab : at' < b.length
    · have hab' : (at' : Int) < b.length := by omega
      have hab2 : (at' : Int) ≤ b.length := by omega
      have ha0 : (0 : Int) ≤ at' := by omega
      rw [streamL_step _ _ _ _ (by simp; omega), List.drop_drop] at hps
      obtain ⟨blk, hblk⟩ : ∃ l, l = blockL key c nonce := ⟨_, rfl⟩
      have hblkl : blk.length = 64 := by rw [hblk, blockL_length]
      have hcut := xorL_cut (b.drop at') blk 64 hblkl
      rw [← hblk, ← hcut] at hps
      obtain ⟨xo, hxo⟩ : ∃ l, l = xorL (b.drop at') blk := ⟨_, rfl⟩
      rw [← hxo, ← List.append_assoc] at hps
      have hxl : out.length + xo.length ≤ b.length := by
        have := congrArg List.length hps
        simp only [List.length_append] at this; omega
      have hBl := fun w => refBlock key nonce c hk hn (by omega) w
      have hXo := fun w => refXor (b.drop at') blk (.inr (by omega)) w
      rw [← hblk] at hBl
      rw [← hxo] at hXo
      have htk : b.take b.length = b := List.take_length
      have z9 : ¬ (9223372036854775807 < out.length + xo.length) := by omega
      have e1 : IntKind.u32.wrap ((c : Int) + 1) = c + 1 := by rw [IntKind.wrap_u32]; omega
      have HPS := Lib.hid hps
      have HBL := Lib.hid hBl
      have HXO := Lib.hid hXo
      clear hps hBl hXo hblk hxo hcut
      have cB : ∀ args w, (callFunc 91 args).run Try.prog w = .ok (.enter 91 args) w := fun args w => run_callFunc_body Try.func91 (by kernel_rfl) (by kernel_rfl) args w
      have cX : ∀ args w, (callFunc 96 args).run Try.prog w = .ok (.enter 96 args) w := fun args w => run_callFunc_body Try.func96 (by kernel_rfl) (by kernel_rfl) args w
      go_wp2_with fail
      apply region_writer (g := wr.heap.size) (n := 10) (hn := by kernel_rfl) (hlast := rfl) (hU := by kernel_rfl) (Φ1 := ([])) (Φm := Is _) (Φ2 := (Is _ :: Is _ :: Is _ :: Is _ :: Is _ :: Is _ :: Is _ :: Is _ :: Is _ :: [])) (hm := by kernel_rfl) (hE := by kernel_rfl) (hD := by kernel_rfl) (hsize := by kernel_rfl)
      case hop =>
        refine ⟨?_, ?_, ?_, ?_, ?_, ?_, ?_, ?_, ?_, ?_, trivial⟩
        · intro a' w' hs hp he
          have hp : Pu _ w' := hp
          have e9 := hs 9 (by kernel_rfl)
          try simp [Is, Region.binds] at he
          exact op_valB rfl (wanted_none rfl) (by first | (go_simp; done) | (go_simp; rfl) | (simp [execOp, Act.eval, go_sem, *]; done) | (simp [execOp, Act.eval, go_sem, *]; rfl)) rfl (But.pu (Pu.refl _))
        · intro a' w' hs hp he
          have hp : But wr.heap.size _ w' := hp
          replace hp := But.toPu hp (Nat.le_refl _)
          have e3 := hs 3 (by kernel_rfl)
          try simp [Is, Region.binds] at he
          exact op_val rfl (wanted_none rfl) (by first | (go_simp; done) | (go_simp; rfl) | (simp [execOp, Act.eval, go_sem, *]; done) | (simp [execOp, Act.eval, go_sem, *]; rfl)) rfl (Pu.refl _)
        · intro a' w' hs hp he
          have hp : But wr.heap.size _ w' := hp
          replace hp := But.toPu hp (Nat.le_refl _)
          have e10 := hs 10 (by kernel_rfl)
          try simp [Is, Region.binds] at he
          exact op_val rfl (wanted_none rfl) (by first | (go_simp; done) | (go_simp; rfl) | (simp [execOp, Act.eval, go_sem, *]; done) | (simp [execOp, Act.eval, go_sem, *]; rfl)) rfl (Pu.refl _)
        · intro a' w' hs hp he
          have hp : But wr.heap.size _ w' := hp
          replace hp := But.toPu hp (Nat.le_refl _)
          try simp [Is, Region.binds] at he
          exact op_val rfl (wanted_none rfl) (by first | (go_simp; done) | (go_simp; rfl) | (simp [execOp, Act.eval, go_sem, *]; done) | (simp [execOp, Act.eval, go_sem, *]; rfl)) rfl (Pu.refl _)
        · intro a' w' hs hp he
          have hp : But wr.heap.size _ w' := hp
          replace hp := But.toPu hp (Nat.le_refl _)
          have e0 := hs 0 (by kernel_rfl)
          try simp [Is, Region.binds] at he
          exact op_val rfl (wanted_none rfl) (by first | (go_simp; done) | (go_simp; rfl) | (simp [execOp, Act.eval, go_sem, *]; done) | (simp [execOp, Act.eval, go_sem, *]; rfl)) rfl (Pu.refl _)
        · intro a' w' hs hp he
          have hp : But wr.heap.size _ w' := hp
          replace hp := But.toPu hp (Nat.le_refl _)
          have e1 := hs 1 (by kernel_rfl)
          try simp [Is, Region.binds] at he
          exact op_val rfl (wanted_none rfl) (by first | (go_simp; done) | (go_simp; rfl) | (simp [execOp, Act.eval, go_sem, *]; done) | (simp [execOp, Act.eval, go_sem, *]; rfl)) rfl (Pu.refl _)
        · intro a' w' hs hp he
          have hp : But wr.heap.size _ w' := hp
          replace hp := But.toPu hp (Nat.le_refl _)
          have e2 := hs 2 (by kernel_rfl)
          try simp [Is, Region.binds] at he
          exact op_val rfl (wanted_none rfl) (by first | (go_simp; done) | (go_simp; rfl) | (simp [execOp, Act.eval, go_sem, *]; done) | (simp [execOp, Act.eval, go_sem, *]; rfl)) rfl (Pu.refl _)
        · intro a' w' hs hp he
          have hp : But wr.heap.size _ w' := hp
          replace hp := But.toPu hp (Nat.le_refl _)
          try simp [Is, Region.binds] at he
          exact op_callP (HBL.out _) rfl (wanted_none rfl) (by first | (go_simp; done) | (go_simp; rfl)) (fun _ => rfl)
        · intro a' w' hs hp he
          have hp : But wr.heap.size _ w' := hp
          replace hp := But.toPu hp (Nat.le_refl _)
          try simp [Is, Region.binds] at he
          exact op_callP (HXO.out _) rfl (wanted_none rfl) (by first | (go_simp; done) | (go_simp; rfl)) (fun _ => rfl)
        · intro a' w' hs hp he
          have hp : But wr.heap.size _ w' := hp
          replace hp := But.toPu hp (Nat.le_refl _)
          try simp [Is, Region.binds] at he
          exact op_val rfl (wanted_none rfl) (by first | (go_simp; done) | (go_simp; rfl) | (simp [execOp, Act.eval, go_sem, *]; done) | (simp [execOp, Act.eval, go_sem, *]; rfl)) rfl (Pu.refl _)
      case hend =>
        intro a' w' hdef hsz hs hp hall
        replace hp := But.toPu hp (Nat.le_refl _)
        obtain ⟨r0, r1, r2, r3, r4, r5, r6, r7, r8, r9, -⟩ := hall
        have hA := agree_done (agree_step (agree_step (agree_step (agree_step (agree_step (agree_step (agree_step (agree_step (agree_step (agree_step (agree_initL [17, 18, 19, 20, 21, 22, 23, 24, 25, 26] hsz hs (by kernel_rfl)) r0) r1) r2) r3) r4) r5) r6) r7) r8) r9)
        have ha := act_of hA hdef
        rw [ha]
        clear ha hA hs hsz hdef r0 r1 r2 r3 r4 r5 r6 r7 r8 r9 
        (try simp only [List.setIfInBounds_toArray])
        (try dsimp only [List.set_cons_zero, List.set_cons_succ])
        (try simp only [Exit.then])
        refine op_run rfl (wanted_none rfl) (by first | (go_simp; done) | (go_simp; rfl) | (go_simp; exact ⟨rfl, rfl⟩)) ?_
        (try simp only [Act.put, List.setIfInBounds_toArray])
        (try dsimp only [List.set_cons_zero, List.set_cons_succ])
        (try simp only [Exit.inBlock, Exit.then])
        have hbel2 := hbel.trans (Below.mono hp hbel.size)
        clear hp
        go_wp2_with fail
        go_roundw
        case rel => first | exact ⟨at' + 64, c + 1, out ++ xo, by go_num, rfl, by go_num, by omega, by omega, by simp; omega, HPS.out, hbel2⟩ | ((repeat apply Exists.intro); exact ⟨⟨at' + 64, c + 1, out ++ xo, by go_num, rfl, by go_num, by omega, by omega, by simp; omega, HPS.out, hbel2⟩, rfl⟩)
        case measure => simp [intOf]; omega
    · have hab' : decide ((at' : Int) < b.length) = false := by simp; omega
      rw [List.drop_of_length_le (by omega), streamL_nil, List.append_nil] at hps
      subst hps
      go_wp2_with fail
      go_ret
      exact ⟨by rw [← HTOT.out]; rfl, hbel⟩
set_option maxRecDepth 100000 in
set_option maxHeartbeats 1600000 in
theorem refBoxYes (key nonce plain more : Bs) (h : fineL key nonce = true) (hh : plain.length ≤ 90000) (hm : more.length ≤ 100000) (w : World) :
    Calls Try.prog 50 #[S key, S nonce, S plain, S more] w fun e w' => e = .returned (.tuple #[S (sealL key nonce plain more), .bool true]) ∧ Pu w w' := by
  have hFi := fun w => fineYes key nonce h w
  have hX := fun w => refStream key nonce plain 1 h (by omega) (by omega) w
  rw [show ((1 : Nat) : Int) = 1 from rfl] at hX
  have hcl := streamL_length key 1 nonce plain
  obtain ⟨hidden, hc⟩ : ∃ l, l = streamL key 1 nonce plain := ⟨_, rfl⟩
  rw [← hc] at hX hcl
  obtain ⟨hk, hn⟩ := fineL_of h
  have hB := fun w => refBlock key nonce 0 hk hn (by omega) w
  rw [show ((0 : Nat) : Int) = 0 from rfl] at hB
  obtain ⟨blk, hblk⟩ : ∃ l, l = blockL key 0 nonce := ⟨_, rfl⟩
  have hbl : blk.length = 64 := by rw [hblk, blockL_length]
  rw [← hblk] at hB
  have hP1 := fun w => refPutLittle (more.length : Int) 8 w (by omega) (by omega) (by omega) (by omega)
  have hP2 := fun w => refPutLittle (hidden.length : Int) 8 w (by omega) (by omega) (by omega) (by omega)
  rw [show ((more.length : Int)).toNat = more.length from rfl, show ((8 : Int)).toNat = 8 from rfl] at hP1
  rw [show ((hidden.length : Int)).toNat = hidden.length from rfl, show ((8 : Int)).toNat = 8 from rfl] at hP2
  obtain ⟨p1, hp1⟩ : ∃ l, l = putL more.length 8 := ⟨_, rfl⟩
  obtain ⟨p2, hp2⟩ : ∃ l, l = putL hidden.length 8 := ⟨_, rfl⟩
  have hp1l : p1.length = 8 := by rw [hp1, putL_length]
  have hp2l : p2.length = 8 := by rw [hp2, putL_length]
  rw [← hp1] at hP1
  rw [← hp2] at hP2
  have hF1 := fun w => refFilled more (by omega) w
  have hF2 := fun w => refFilled hidden (by omega) w
  have hfl1 := filledL_length more
  have hfl2 := filledL_length hidden
  obtain ⟨f1, hf1⟩ : ∃ l, l = filledL more := ⟨_, rfl⟩
  obtain ⟨f2, hf2⟩ : ∃ l, l = filledL hidden := ⟨_, rfl⟩
  rw [← hf1] at hF1 hfl1
  rw [← hf2] at hF2 hfl2
  obtain ⟨all, hall⟩ : ∃ l, l = f1 ++ (f2 ++ (p1 ++ p2)) := ⟨_, rfl⟩
  have hall' : f1 ++ (f2 ++ (p1 ++ p2)) = all := hall.symm
  have hal : all.length ≤ 300000 := by rw [hall]; simp; omega
  have hT := fun w => refTag (blk.take 32) all (by simp; omega) (by omega) w
  have htl := tagL_length (blk.take 32) all
  obtain ⟨t, ht⟩ : ∃ l, l = tagL (blk.take 32) all := ⟨_, rfl⟩
  rw [← ht] at hT htl
  have hfin : sealL key nonce plain more = hidden ++ t := by rw [ht, hall]; simp only [sealL, boxTag, ← hc, ← hblk, ← hf1, ← hf2, ← hp1, ← hp2, List.append_assoc]
  have w1' : IntKind.u64.wrap (more.length : Int) = more.length := by rw [IntKind.wrap_u64]; omega
  have w2' : IntKind.u64.wrap (hidden.length : Int) = hidden.length := by rw [IntKind.wrap_u64]; omega
  have w3' : IntKind.u64.wrap (plain.length : Int) = plain.length := by rw [IntKind.wrap_u64]; omega
  have z2 : ¬ (9223372036854775807 < f1.length + f2.length) := by omega
  have z3 : ¬ (9223372036854775807 < f1.length + f2.length + 8) := by omega
  have z4 : ¬ (9223372036854775807 < f1.length + (f2.length + 8)) := by omega
  have z5 : ¬ (9223372036854775807 < f1.length + (f2.length + 8) + 8) := by omega
  have z6 : ¬ (9223372036854775807 < f1.length + f2.length + 8 + 8) := by omega
  have z7 : ¬ (9223372036854775807 < f1.length + (f2.length + (8 + 8))) := by omega
  have z8 : ¬ (9223372036854775807 < hidden.length + t.length) := by omega
  have z9 : ¬ (9223372036854775807 < plain.length + 16) := by omega
  have z10 : ¬ (9223372036854775807 < hidden.length + 16) := by omega
  have HFI := Lib.hid hFi
  have HX := Lib.hid hX
  have HB := Lib.hid hB
  have HP1 := Lib.hid hP1
  have HP2 := Lib.hid hP2
  have HF1 := Lib.hid hF1
  have HF2 := Lib.hid hF2
  have HT := Lib.hid hT
  have HFIN := Lib.hid hfin
  have HCL := Lib.hid hcl
  clear h hFi hX hB hP1 hP2 hF1 hF2 hT hfin hblk hp1 hp2 hf1 hf2 hall hc ht hcl hk hn
  go_enter Try.func50, Try.ntmps50
  go_wp2_with (first
    | (go_at_call 89; refine (HFI.out _).mono ?_; rintro e w1 ⟨rfl, hw1⟩; subst w1)
    | (go_at_call 53; refine (HX.out _).mono ?_; rintro e w2 ⟨rfl, hpu⟩))
  have cB : ∀ args w, (callFunc 91 args).run Try.prog w = .ok (.enter 91 args) w := fun args w => run_callFunc_body Try.func91 (by kernel_rfl) (by kernel_rfl) args w
  have cF : ∀ args w, (callFunc 92 args).run Try.prog w = .ok (.enter 92 args) w := fun args w => run_callFunc_body Try.func92 (by kernel_rfl) (by kernel_rfl) args w
  have cT : ∀ args w, (callFunc 90 args).run Try.prog w = .ok (.enter 90 args) w := fun args w => run_callFunc_body Try.func90 (by kernel_rfl) (by kernel_rfl) args w
  have cP : ∀ args w, (callFunc 93 args).run Try.prog w = .ok (.enter 93 args) w := fun args w => run_callFunc_body Try.func93 (by kernel_rfl) (by kernel_rfl) args w
  apply region_pu (Φs := (Is _ :: Is _ :: Is _ :: Is _ :: Is _ :: Is _ :: Is _ :: Is _ :: Is _ :: Is _ :: Is _ :: Is _ :: Is _ :: Is _ :: Is _ :: Is _ :: Is _ :: Is _ :: Is _ :: Is _ :: Is _ :: Is _ :: Is _ :: Is _ :: [])) (hm := by kernel_rfl) (hE := by kernel_rfl) (hD := by kernel_rfl) (hsize := by kernel_rfl)
  case hop =>
    refine ⟨?_, ?_, ?_, ?_, ?_, ?_, ?_, ?_, ?_, ?_, ?_, ?_, ?_, ?_, ?_, ?_, ?_, ?_, ?_, ?_, ?_, ?_, ?_, ?_, trivial⟩
    · intro a' w' hs hp he
      have e10 := hs 10 (by kernel_rfl)
      try simp [Is, Region.binds] at he
      exact op_val rfl (wanted_none rfl) (by first | (go_simp; done) | (go_simp; rfl) | (simp [execOp, Act.eval, go_sem, *]; done) | (simp [execOp, Act.eval, go_sem, *]; rfl)) rfl (Pu.refl _)
    · intro a' w' hs hp he
      have e0 := hs 0 (by kernel_rfl)
      try simp [Is, Region.binds] at he
      exact op_val rfl (wanted_none rfl) (by first | (go_simp; done) | (go_simp; rfl) | (simp [execOp, Act.eval, go_sem, *]; done) | (simp [execOp, Act.eval, go_sem, *]; rfl)) rfl (Pu.refl _)
    · intro a' w' hs hp he
      have e1 := hs 1 (by kernel_rfl)
      try simp [Is, Region.binds] at he
      exact op_val rfl (wanted_none rfl) (by first | (go_simp; done) | (go_simp; rfl) | (simp [execOp, Act.eval, go_sem, *]; done) | (simp [execOp, Act.eval, go_sem, *]; rfl)) rfl (Pu.refl _)
    · intro a' w' hs hp he
      try simp [Is, Region.binds] at he
      exact op_callP (HB.out _) rfl (wanted_none rfl) (by first | (go_simp; done) | (go_simp; rfl)) (fun _ => rfl)
    · intro a' w' hs hp he
      try simp [Is, Region.binds] at he
      exact op_val rfl (wanted_none rfl) (by first | (go_simp; done) | (go_simp; rfl) | (simp [execOp, Act.eval, go_sem, *]; done) | (simp [execOp, Act.eval, go_sem, *]; rfl)) rfl (Pu.refl _)
    · intro a' w' hs hp he
      have e3 := hs 3 (by kernel_rfl)
      try simp [Is, Region.binds] at he
      exact op_val rfl (wanted_none rfl) (by first | (go_simp; done) | (go_simp; rfl) | (simp [execOp, Act.eval, go_sem, *]; done) | (simp [execOp, Act.eval, go_sem, *]; rfl)) rfl (Pu.refl _)
    · intro a' w' hs hp he
      try simp [Is, Region.binds] at he
      exact op_callP (HF1.out _) rfl (wanted_none rfl) (by first | (go_simp; done) | (go_simp; rfl)) (fun _ => rfl)
    · intro a' w' hs hp he
      have e10 := hs 10 (by kernel_rfl)
      try simp [Is, Region.binds] at he
      exact op_val rfl (wanted_none rfl) (by first | (go_simp; done) | (go_simp; rfl) | (simp [execOp, Act.eval, go_sem, *]; done) | (simp [execOp, Act.eval, go_sem, *]; rfl)) rfl (Pu.refl _)
    · intro a' w' hs hp he
      try simp [Is, Region.binds] at he
      exact op_callP (HF2.out _) rfl (wanted_none rfl) (by first | (go_simp; done) | (go_simp; rfl)) (fun _ => rfl)
    · intro a' w' hs hp he
      try simp [Is, Region.binds] at he
      exact op_val rfl (wanted_none rfl) (by first | (go_simp; done) | (go_simp; rfl) | (simp [execOp, Act.eval, go_sem, *]; done) | (simp [execOp, Act.eval, go_sem, *]; rfl)) rfl (Pu.refl _)
    · intro a' w' hs hp he
      have e3 := hs 3 (by kernel_rfl)
      try simp [Is, Region.binds] at he
      exact op_val rfl (wanted_none rfl) (by first | (go_simp; done) | (go_simp; rfl) | (simp [execOp, Act.eval, go_sem, *]; done) | (simp [execOp, Act.eval, go_sem, *]; rfl)) rfl (Pu.refl _)
    · intro a' w' hs hp he
      try simp [Is, Region.binds] at he
      exact op_val rfl (wanted_none rfl) (by first | (go_simp; done) | (go_simp; rfl) | (simp [execOp, Act.eval, go_sem, *]; done) | (simp [execOp, Act.eval, go_sem, *]; rfl)) rfl (Pu.refl _)
    · intro a' w' hs hp he
      try simp [Is, Region.binds] at he
      exact op_val rfl (wanted_none rfl) (by first | (go_simp; done) | (go_simp; rfl) | (simp [execOp, Act.eval, go_sem, *]; done) | (simp [execOp, Act.eval, go_sem, *]; rfl)) rfl (Pu.refl _)
    · intro a' w' hs hp he
      try simp [Is, Region.binds] at he
      exact op_callP (HP1.out _) rfl (wanted_none rfl) (by first | (go_simp; done) | (go_simp; rfl)) (fun _ => rfl)
    · intro a' w' hs hp he
      try simp [Is, Region.binds] at he
      exact op_val rfl (wanted_none rfl) (by first | (go_simp; done) | (go_simp; rfl) | (simp [execOp, Act.eval, go_sem, *]; done) | (simp [execOp, Act.eval, go_sem, *]; rfl)) rfl (Pu.refl _)
    · intro a' w' hs hp he
      have e10 := hs 10 (by kernel_rfl)
      try simp [Is, Region.binds] at he
      exact op_val rfl (wanted_none rfl) (by first | (go_simp; done) | (go_simp; rfl) | (simp [execOp, Act.eval, go_sem, *]; done) | (simp [execOp, Act.eval, go_sem, *]; rfl)) rfl (Pu.refl _)
    · intro a' w' hs hp he
      try simp [Is, Region.binds] at he
      exact op_val rfl (wanted_none rfl) (by first | (go_simp; done) | (go_simp; rfl) | (simp [execOp, Act.eval, go_sem, *]; done) | (simp [execOp, Act.eval, go_sem, *]; rfl)) rfl (Pu.refl _)
    · intro a' w' hs hp he
      try simp [Is, Region.binds] at he
      exact op_val rfl (wanted_none rfl) (by first | (go_simp; done) | (go_simp; rfl) | (simp [execOp, Act.eval, go_sem, *]; done) | (simp [execOp, Act.eval, go_sem, *]; rfl)) rfl (Pu.refl _)
    · intro a' w' hs hp he
      try simp [Is, Region.binds] at he
      exact op_callP (HP2.out _) rfl (wanted_none rfl) (by first | (go_simp; done) | (go_simp; rfl)) (fun _ => rfl)
    · intro a' w' hs hp he
      try simp [Is, Region.binds] at he
      exact op_val rfl (wanted_none rfl) (by first | (go_simp; done) | (go_simp; rfl) | (simp [execOp, Act.eval, go_sem, *]; done) | (simp [execOp, Act.eval, go_sem, *]; rfl)) rfl (Pu.refl _)
    · intro a' w' hs hp he
      try simp [Is, Region.binds] at he
      exact op_callP (HT.out _) rfl (wanted_none rfl) (by first | (go_simp; done) | (go_simp; rfl)) (fun _ => rfl)
    · intro a' w' hs hp he
      try simp [Is, Region.binds] at he
      exact op_val rfl (wanted_none rfl) (by first | (go_simp; done) | (go_simp; rfl) | (simp [execOp, Act.eval, go_sem, *]; done) | (simp [execOp, Act.eval, go_sem, *]; rfl)) rfl (Pu.refl _)
    · intro a' w' hs hp he
      try simp [Is, Region.binds] at he
      exact op_val rfl (wanted_none rfl) (by first | (go_simp; done) | (go_simp; rfl) | (simp [execOp, Act.eval, go_sem, *]; done) | (simp [execOp, Act.eval, go_sem, *]; rfl)) rfl (Pu.refl _)
    · intro a' w' hs hp he
      try simp [Is, Region.binds] at he
      exact op_val rfl (wanted_none rfl) (by first | (go_simp; done) | (go_simp; rfl) | (simp [execOp, Act.eval, go_sem, *]; done) | (simp [execOp, Act.eval, go_sem, *]; rfl)) rfl (Pu.refl _)
  case hend =>
    intro a' w' hdef hsz hs hp hall
    obtain ⟨r0, r1, r2, r3, r4, r5, r6, r7, r8, r9, r10, r11, r12, r13, r14, r15, r16, r17, r18, r19, r20, r21, r22, r23, -⟩ := hall
    have hA := agree_done (agree_step (agree_step (agree_step (agree_step (agree_step (agree_step (agree_step (agree_step (agree_step (agree_step (agree_step (agree_step (agree_step (agree_step (agree_step (agree_step (agree_step (agree_step (agree_step (agree_step (agree_step (agree_step (agree_step (agree_step (agree_init [19, 20, 21, 22, 23, 24, 25, 26, 27, 28, 29, 30, 31, 32, 33, 34, 35, 36, 37, 38, 39, 40, 8, 9] hsz hs (by kernel_rfl)) r0) r1) r2) r3) r4) r5) r6) r7) r8) r9) r10) r11) r12) r13) r14) r15) r16) r17) r18) r19) r20) r21) r22) r23)
    have ha := act_of hA hdef
    rw [ha]
    clear ha hA hs hsz hdef r0 r1 r2 r3 r4 r5 r6 r7 r8 r9 r10 r11 r12 r13 r14 r15 r16 r17 r18 r19 r20 r21 r22 r23 
    (try simp only [List.setIfInBounds_toArray])
    (try dsimp only [List.set_cons_zero, List.set_cons_succ])
    (try simp only [Exit.then])
    go_wp2_with fail
    go_ret2
    exact ⟨by rw [HFIN.out]; rfl, Pu.trans hpu hp⟩
theorem refBoxNo (key nonce plain more : Bs) (h : fineL key nonce = false) (w : World) :
    Calls Try.prog 50 #[S key, S nonce, S plain, S more] w fun e w' => e = .returned (.tuple #[S [], .bool false]) ∧ w' = w := by
  have hFi := fun w => fineNo key nonce h w
  have HFI := Lib.hid hFi
  clear h hFi
  go_enter Try.func50, Try.ntmps50
  go_wp2_with (go_at_call 89; refine (HFI.out _).mono ?_; rintro e w1 ⟨rfl, hw1⟩; subst w1)
  go_ret2
  exact ⟨rfl, rfl⟩
theorem refBox (key nonce plain more : Bs) (hh : plain.length ≤ 90000) (hm : more.length ≤ 100000) (w : World) :
    Calls Try.prog 50 #[S key, S nonce, S plain, S more] w fun e w' => e = .returned (rb (sealR key nonce plain more)) ∧ Pu w w' := by
  cases h : fineL key nonce with
  | true => rw [sealR_yes _ _ h]; exact refBoxYes key nonce plain more h hh hm w
  | false =>
    rw [sealR_no _ _ h]
    refine (refBoxNo key nonce plain more h w).mono ?_
    rintro e w' ⟨rfl, rfl⟩; exact ⟨rfl, Pu.refl _⟩
set_option maxHeartbeats 1600000 in
theorem refUnbox (key nonce b more : Bs) (hh : b.length ≤ 90000) (hm : more.length ≤ 100000) (w : World) :
    Calls Try.prog 52 #[S key, S nonce, S b, S more] w fun e w' => e = .returned (rb (openR key nonce b more)) ∧ Pu w w' := by
  cases hf : fineL key nonce with
  | false =>
    rw [openR_no b more hf]
    have hFi := fun w => fineNo key nonce hf w
    have HFI := Lib.hid hFi
    clear hf hFi
    go_enter Try.func52, Try.ntmps52
    go_wp2_with (go_at_call 89; refine (HFI.out _).mono ?_; rintro e w1 ⟨rfl, hw1⟩; subst w1)
    go_ret2
    exact ⟨rfl, Pu.refl _⟩
  | true =>
    have hFi := fun w => fineYes key nonce hf w
    have HFI := Lib.hid hFi
    clear hFi
    by_cases h16 : b.length < 16
    · rw [openR_short key nonce more h16]
      have h16' : (b.length : Int) < 16 := by omega
      clear hf
      go_enter Try.func52, Try.ntmps52
      go_wp2_with (go_at_call 89; refine (HFI.out _).mono ?_; rintro e w1 ⟨rfl, hw1⟩; subst w1)
      go_ret2
      exact ⟨rfl, Pu.refl _⟩
    · have h16' : decide ((b.length : Int) < 16) = false := by simp; omega
      have h16n : ¬ ((b.length : Int) < 16) := by omega
      obtain ⟨at', hat⟩ : ∃ n : Nat, n = b.length - 16 := ⟨_, rfl⟩
      have q2 : (b.length : Int) - 16 = at' := by omega
      have q2w : IntKind.i64.wrap (at' : Int) = at' := by rw [IntKind.wrap_i64]; omega
      have q4 : (0 : Int) ≤ at' := by omega
      have q5 : (at' : Int) ≤ b.length := by omega
      have hS := fun w => refStream key nonce (b.take at') 1 hf (by omega) (by simp; omega) w
      rw [show ((1 : Nat) : Int) = 1 from rfl] at hS
      have hcl := streamL_length key 1 nonce (b.take at')
      obtain ⟨p, hp⟩ : ∃ l, l = streamL key 1 nonce (b.take at') := ⟨_, rfl⟩
      rw [← hp] at hS hcl
      have hpl : p.length ≤ 90000 := by rw [hcl]; simp; omega
      have hBx := fun w => refBoxYes key nonce p more hf hpl hm w
      have hun := unboxR_eq key nonce b more
      rw [unboxR, ← hat, ← hp] at hun
      obtain ⟨c, hc⟩ : ∃ l, l = sealL key nonce p more := ⟨_, rfl⟩
      rw [← hc] at hBx hun
      have HS := Lib.hid hS
      have HBX := Lib.hid hBx
      have h16g : 16 ≤ b.length := by omega
      by_cases hcb : c = b
      · have hres : openR key nonce b more = (p, true) := by rw [← hun, if_pos (by simp [hf, hcb, h16g])]
        rw [hres]
        have hq : (c != b) = false := by simp [hcb]
        have HQ := Lib.hid hcb
        clear hun hres hS hBx hc hp hcl hat hf hq
        obtain rfl := HQ.out
        go_enter Try.func52, Try.ntmps52
        go_wp2_with (first
          | (go_at_call 89; refine (HFI.out _).mono ?_; rintro e w1 ⟨rfl, hw1⟩; subst w1)
          | (go_at_call 53; refine (HS.out _).mono ?_; rintro e w2 ⟨rfl, hp2⟩)
          | (go_at_call 50; refine (HBX.out _).mono ?_; rintro e w3 ⟨rfl, hp3⟩))
        go_ret2
        exact ⟨rfl, Pu.trans hp2 hp3⟩
      · have hres : openR key nonce b more = ([], false) := by rw [← hun, if_neg (by simp [hcb])]
        rw [hres]
        have hne : ¬ (bs c = bs b) := fun h => hcb (bs_inj h)
        have hne3 : (c == b) = false := beq_eq_false_iff_ne.2 hcb
        clear hun hres hS hBx hc hp hcl hat hf hcb
        go_enter Try.func52, Try.ntmps52
        go_wp2_with (first
          | (go_at_call 89; refine (HFI.out _).mono ?_; rintro e w1 ⟨rfl, hw1⟩; subst w1)
          | (go_at_call 53; refine (HS.out _).mono ?_; rintro e w2 ⟨rfl, hp2⟩)
          | (go_at_call 50; refine (HBX.out _).mono ?_; rintro e w3 ⟨rfl, hp3⟩))
        go_ret2
        exact ⟨rfl, Pu.trans hp2 hp3⟩
end Go.Proofs.Ytdjbhbefghihcaa
