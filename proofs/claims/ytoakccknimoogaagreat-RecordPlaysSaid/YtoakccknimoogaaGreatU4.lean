/- The document's Xor, streams and boxes. ratchet.Session. The operations of a region, by its number; the document's turns to the right. Region 16 of the document's Sum. Region 19 of the document's Sum. Region 24 of the document's Sum. -/
import Derived.Test.YtoakccknimoogaaGreatU3
set_option linter.unusedSimpArgs false
set_option linter.unusedVariables false
set_option linter.unusedSimpArgs false
set_option linter.unusedVariables false
namespace Go.Proofs.YtoakccknimoogaaGreat
open Go.RowKit Go.Esc
set_option maxRecDepth 100000 in
set_option maxHeartbeats 1600000 in
theorem refXor_of (a b : Bs) (n : Nat) (hab : (b.length = n ∧ n < a.length) ∨ (a.length = n ∧ n ≤ b.length)) (hn : n ≤ 1000000) (w : World) :
 Calls Tryz.prog 123 #[S a, S b] w fun e w' => e = .returned (S (xorL a b)) ∧ Pu w w' := by
 obtain ⟨i0, hi, hz0, hz1, hz2⟩ := info_parts infoB
 obtain ⟨z, hz⟩ : ∃ z, z = xorL a b := ⟨_, rfl⟩
 have hzl : z.length = n := by rw [hz, xorL_length]; omega
 have hzg : ∀ (k : Nat) (h : k < n) (h1 : k < a.length) (h2 : k < b.length), z[k]'(by omega) = a[k] ^^^ b[k] := by
  intro k h h1 h2; simp only [hz, xorL, List.getElem_zipWith]
 rw [← hz]
 have HZG := Lib.hid hzg
 clear hz hzg
 rcases hab with ⟨hbn, hlt⟩ | ⟨hbn, hlt⟩
 · have hlt' : (n : Int) < a.length := by omega
   have hmin : min (a.length : Int) (n : Int) = n := by omega
   go_enter Tryz.func123, Tryz.ntmps123
   go_wp2_with (at_make; refine wpList_make_full _ rfl _ _ 51 rfl w.heap.size 5 i0 (.int .u8 0) 1 Tryz.underlying51 hi hz0 hz1 _ _ _ _ n rfl rfl rfl rfl (by rw [hz2]; omega) (by unfold maxLen; omega) (Nat.le_refl _) ?_; intro w1 hown hgrow)
   go_loopw [7] (fun i wr => ∃ k : Nat, k ≤ n ∧ i = .int .i64 k ∧ wr.ownsRow w.heap.size 5 1 (.slice (some ⟨w.heap.size, 0, none⟩) n n) n (cells (xorArr z k)) ∧ Below w.heap.size w wr) (fun i _ => n - (intOf i).toNat)
   case atStart => exact ⟨0, Nat.zero_le _, rfl, by rw [madeZ] at hown; simpa [xorArr, hzl] using hown, (Below.refl _ _).grown hgrow (Nat.le_refl _) (by simp)⟩
   case round =>
    clear hown hgrow
    obtain ⟨k, hk, rfl, hown, hbel⟩ := hrel
    by_cases hkn : k < n
    · have ha1 : k < a.length := by omega
      have hb1 : k < b.length := by omega
      have hz1' : k < z.length := by omega
      obtain ⟨x, hx⟩ : ∃ x, a[k] = x := ⟨_, rfl⟩
      obtain ⟨y, hy⟩ : ∃ y, b[k] = y := ⟨_, rfl⟩
      obtain ⟨v, hv⟩ : ∃ v, z[k] = v := ⟨_, rfl⟩
      have hxy : Go.bits .xor .u8 (x.toNat : Int) (y.toNat : Int) = (v.toNat : Int) := by
       rw [xor_val, ← hv, HZG.out k hkn ha1 hb1, hx, hy]
      have hset := xorArr_set z k hz1'
      rw [hv] at hset
      have hal := xorArr_length z k (by omega)
      have HSET := Lib.hid hset
      have ha2 : (k : Int) < a.length := by omega
      have hb2 : (k : Int) < b.length := by omega
      have hk0 : (0 : Int) ≤ k := by omega
      have hkn' : (k : Int) < n := by omega
      clear hset hv
      go_wp2_with fail
      apply region_last (n := 10) (hn := by kernel_rfl) (hlast := rfl) (hU := by kernel_rfl) (Φs := (Is _ :: Is _ :: Is _ :: Is _ :: Is _ :: Is _ :: Is _ :: Is _ :: Is _ :: Is _ :: [])) (hm := by kernel_rfl) (hE := by kernel_rfl) (hD := by kernel_rfl) (hsize := by kernel_rfl)
      case hop =>
       refine ⟨?_, ?_, ?_, ?_, ?_, ?_, ?_, ?_, ?_, ?_, trivial⟩
       · intro a' w' hs hp he
         have e6 := hs 6 (by kernel_rfl)
         try simp [Is, Region.binds] at he
         exact op_v
       · intro a' w' hs hp he
         have e7 := hs 7 (by kernel_rfl)
         try simp [Is, Region.binds] at he
         exact op_v
       · intro a' w' hs hp he
         have e0 := hs 0 (by kernel_rfl)
         try simp [Is, Region.binds] at he
         exact op_v
       · intro a' w' hs hp he
         have e7 := hs 7 (by kernel_rfl)
         try simp [Is, Region.binds] at he
         exact op_v
       · intro a' w' hs hp he
         try simp [Is, Region.binds] at he
         exact op_v
       · intro a' w' hs hp he
         have e1 := hs 1 (by kernel_rfl)
         try simp [Is, Region.binds] at he
         exact op_v
       · intro a' w' hs hp he
         have e7 := hs 7 (by kernel_rfl)
         try simp [Is, Region.binds] at he
         exact op_v
       · intro a' w' hs hp he
         try simp [Is, Region.binds] at he
         exact op_v
       · intro a' w' hs hp he
         try simp [Is, Region.binds] at he
         exact op_v
       · intro a' w' hs hp he
         try simp [Is, Region.binds] at he
         exact op_v
      case hend =>
       intro a' w' hdef hsz hs hp hall
       obtain ⟨r0, r1, r2, r3, r4, r5, r6, r7, r8, r9, -⟩ := hall
       have hA := agree_done (agree_step (agree_step (agree_step (agree_step (agree_step (agree_step (agree_step (agree_step (agree_step (agree_step (agree_init [20, 21, 22, 23, 24, 25, 26, 27, 28, 29] hsz hs (by kernel_rfl)) r0) r1) r2) r3) r4) r5) r6) r7) r8) r9)
       have ha := act_of hA hdef
       rw [ha]
       clear ha hA hs hsz hdef r0 r1 r2 r3 r4 r5 r6 r7 r8 r9 
       (try simp only [List.setIfInBounds_toArray])
       (try dsimp only [List.set_cons_zero, List.set_cons_succ])
       (try simp only [Exit.then])
       have hown' := own_pu hown hp; obtain ⟨v0, hcl⟩ : ∃ v0, w'.cell? ⟨w.heap.size, k, none⟩ = some v0 := (by have hcl := hown'.cellAt k (by omega); rw [cells_get _ _ (by omega)] at hcl; exact ⟨_, hcl⟩); have hf := hown'.frozenAt k; have hst := hown'.stored k (.int .u8 (v.toNat : Int)); rw [cells_set, HSET.out] at hst
       refine op_done rfl (wanted_none rfl) (by first | (go_simp; done) | (go_simp; rfl)) ?_
       (try simp only [Exit.inBlock, Exit.then])
       go_wp2_with fail
       go_roundw
       case rel => exact ⟨k + 1, by omega, by go_num, hst.1, (hbel.trans (Below.mono hp hbel.size)).grown hst.2 (by have := hbel.size; have := hp.size; omega) (by simp)⟩
       case measure => simp [intOf]; omega
    · obtain rfl : k = n := by omega
      have he : xorArr z k = z := by simp [xorArr, ← hzl]
      rw [he] at hown
      have hcv := own_conv (P := Tryz.prog) 51 9 hown Tryz.underlying51 Tryz.underlying5 Tryz.underlying9
      clear he
      go_wp2_with fail
      go_ret
      exact ⟨rfl, hbel⟩
 · have hlt' : (n : Int) ≤ b.length := by omega
   have hlt2 : decide ((b.length : Int) < n) = false := by simp; omega
   have hmin : min (n : Int) (b.length : Int) = n := by omega
   go_enter Tryz.func123, Tryz.ntmps123
   go_wp2_with (at_make; refine wpList_make_full _ rfl _ _ 51 rfl w.heap.size 5 i0 (.int .u8 0) 1 Tryz.underlying51 hi hz0 hz1 _ _ _ _ n rfl rfl rfl rfl (by rw [hz2]; omega) (by unfold maxLen; omega) (Nat.le_refl _) ?_; intro w1 hown hgrow)
   go_loopw [7] (fun i wr => ∃ k : Nat, k ≤ n ∧ i = .int .i64 k ∧ wr.ownsRow w.heap.size 5 1 (.slice (some ⟨w.heap.size, 0, none⟩) n n) n (cells (xorArr z k)) ∧ Below w.heap.size w wr) (fun i _ => n - (intOf i).toNat)
   case atStart => exact ⟨0, Nat.zero_le _, rfl, by rw [madeZ] at hown; simpa [xorArr, hzl] using hown, (Below.refl _ _).grown hgrow (Nat.le_refl _) (by simp)⟩
   case round =>
    clear hown hgrow
    obtain ⟨k, hk, rfl, hown, hbel⟩ := hrel
    by_cases hkn : k < n
    · have ha1 : k < a.length := by omega
      have hb1 : k < b.length := by omega
      have hz1' : k < z.length := by omega
      obtain ⟨x, hx⟩ : ∃ x, a[k] = x := ⟨_, rfl⟩
      obtain ⟨y, hy⟩ : ∃ y, b[k] = y := ⟨_, rfl⟩
      obtain ⟨v, hv⟩ : ∃ v, z[k] = v := ⟨_, rfl⟩
      have hxy : Go.bits .xor .u8 (x.toNat : Int) (y.toNat : Int) = (v.toNat : Int) := by
       rw [xor_val, ← hv, HZG.out k hkn ha1 hb1, hx, hy]
      have hset := xorArr_set z k hz1'
      rw [hv] at hset
      have hal := xorArr_length z k (by omega)
      have HSET := Lib.hid hset
      have ha2 : (k : Int) < a.length := by omega
      have hb2 : (k : Int) < b.length := by omega
      have hk0 : (0 : Int) ≤ k := by omega
      have hkn' : (k : Int) < n := by omega
      clear hset hv
      go_wp2_with fail
      apply region_last (n := 10) (hn := by kernel_rfl) (hlast := rfl) (hU := by kernel_rfl) (Φs := (Is _ :: Is _ :: Is _ :: Is _ :: Is _ :: Is _ :: Is _ :: Is _ :: Is _ :: Is _ :: [])) (hm := by kernel_rfl) (hE := by kernel_rfl) (hD := by kernel_rfl) (hsize := by kernel_rfl)
      case hop =>
       refine ⟨?_, ?_, ?_, ?_, ?_, ?_, ?_, ?_, ?_, ?_, trivial⟩
       · intro a' w' hs hp he
         have e6 := hs 6 (by kernel_rfl)
         try simp [Is, Region.binds] at he
         exact op_v
       · intro a' w' hs hp he
         have e7 := hs 7 (by kernel_rfl)
         try simp [Is, Region.binds] at he
         exact op_v
       · intro a' w' hs hp he
         have e0 := hs 0 (by kernel_rfl)
         try simp [Is, Region.binds] at he
         exact op_v
       · intro a' w' hs hp he
         have e7 := hs 7 (by kernel_rfl)
         try simp [Is, Region.binds] at he
         exact op_v
       · intro a' w' hs hp he
         try simp [Is, Region.binds] at he
         exact op_v
       · intro a' w' hs hp he
         have e1 := hs 1 (by kernel_rfl)
         try simp [Is, Region.binds] at he
         exact op_v
       · intro a' w' hs hp he
         have e7 := hs 7 (by kernel_rfl)
         try simp [Is, Region.binds] at he
         exact op_v
       · intro a' w' hs hp he
         try simp [Is, Region.binds] at he
         exact op_v
       · intro a' w' hs hp he
         try simp [Is, Region.binds] at he
         exact op_v
       · intro a' w' hs hp he
         try simp [Is, Region.binds] at he
         exact op_v
      case hend =>
       intro a' w' hdef hsz hs hp hall
       obtain ⟨r0, r1, r2, r3, r4, r5, r6, r7, r8, r9, -⟩ := hall
       have hA := agree_done (agree_step (agree_step (agree_step (agree_step (agree_step (agree_step (agree_step (agree_step (agree_step (agree_step (agree_init [20, 21, 22, 23, 24, 25, 26, 27, 28, 29] hsz hs (by kernel_rfl)) r0) r1) r2) r3) r4) r5) r6) r7) r8) r9)
       have ha := act_of hA hdef
       rw [ha]
       clear ha hA hs hsz hdef r0 r1 r2 r3 r4 r5 r6 r7 r8 r9 
       (try simp only [List.setIfInBounds_toArray])
       (try dsimp only [List.set_cons_zero, List.set_cons_succ])
       (try simp only [Exit.then])
       have hown' := own_pu hown hp; obtain ⟨v0, hcl⟩ : ∃ v0, w'.cell? ⟨w.heap.size, k, none⟩ = some v0 := (by have hcl := hown'.cellAt k (by omega); rw [cells_get _ _ (by omega)] at hcl; exact ⟨_, hcl⟩); have hf := hown'.frozenAt k; have hst := hown'.stored k (.int .u8 (v.toNat : Int)); rw [cells_set, HSET.out] at hst
       refine op_done rfl (wanted_none rfl) (by first | (go_simp; done) | (go_simp; rfl)) ?_
       (try simp only [Exit.inBlock, Exit.then])
       go_wp2_with fail
       go_roundw
       case rel => exact ⟨k + 1, by omega, by go_num, hst.1, (hbel.trans (Below.mono hp hbel.size)).grown hst.2 (by have := hbel.size; have := hp.size; omega) (by simp)⟩
       case measure => simp [intOf]; omega
    · obtain rfl : k = n := by omega
      have he : xorArr z k = z := by simp [xorArr, ← hzl]
      rw [he] at hown
      have hcv := own_conv (P := Tryz.prog) 51 9 hown Tryz.underlying51 Tryz.underlying5 Tryz.underlying9
      clear he
      go_wp2_with fail
      go_ret
      exact ⟨rfl, hbel⟩
theorem refXor (a b : Bs) (h : a.length ≤ 1000000 ∨ b.length ≤ 1000000) (w : World) :
 Calls Tryz.prog 123 #[S a, S b] w fun e w' => e = .returned (S (xorL a b)) ∧ Pu w w' := by
 by_cases hlt : b.length < a.length
 · exact refXor_of a b b.length (.inl ⟨rfl, hlt⟩) (by omega) w
 · exact refXor_of a b a.length (.inr ⟨rfl, by omega⟩) (by omega) w
theorem fineYes (key nonce : Bs) (h : fineL key nonce = true) (w : World) :
 Calls Tryz.prog 78 #[S key, S nonce] w fun e w' => e = .returned (.bool true) ∧ w' = w := by
 obtain ⟨hk, hn⟩ := fineL_of h
 clear h
 have h1 : (key.length : Int) = 32 := by omega
 have h2 : (nonce.length : Int) = 12 := by omega
 go_enter Tryz.func78, Tryz.ntmps78
 go_wp2_with fail
 go_ret
 exact ⟨rfl, rfl⟩
theorem fineNo (key nonce : Bs) (h : fineL key nonce = false) (w : World) :
 Calls Tryz.prog 78 #[S key, S nonce] w fun e w' => e = .returned (.bool false) ∧ w' = w := by
 rcases fineL_no h with hk | ⟨hk, hn⟩
 · clear h
   have h1 : ((key.length : Int) == 32) = false := by simp; omega
   have h2 : ¬ ((key.length : Int) = 32) := by omega
   go_enter Tryz.func78, Tryz.ntmps78
   go_wp2_with fail
   go_ret
   exact ⟨rfl, rfl⟩
 · clear h
   have h1 : (key.length : Int) = 32 := by omega
   have h2 : ¬ ((nonce.length : Int) = 12) := by omega
   have h3 : ((nonce.length : Int) == 12) = false := by simp; omega
   go_enter Tryz.func78, Tryz.ntmps78
   go_wp2_with fail
   go_ret
   exact ⟨rfl, rfl⟩
set_option maxRecDepth 100000 in
theorem refFilled (b : Bs) (hb : b.length ≤ 200000) (w : World) :
 Calls Tryz.prog 82 #[S b] w fun e w' => e = .returned (S (filledL b)) ∧ Pu w w' := by
 obtain ⟨r, hr⟩ : ∃ r, r = b.length % 16 := ⟨_, rfl⟩
 obtain ⟨z, hz⟩ : ∃ z, z = (16 - r) % 16 := ⟨_, rfl⟩
 have hfin : filledL b = b ++ List.replicate z 0 := by rw [filledL, ← hr, ← hz]
 have e1 : (b.length : Int).tmod 16 = r := by rw [Int.tmod_eq_emod_of_nonneg (by omega)]; omega
 have e1' : (b.length : Int) % 16 = r := by omega
 obtain ⟨d, hd⟩ : ∃ d, d = 16 - r := ⟨_, rfl⟩
 have e2 : (16 : Int) - r = d := by omega
 have e2' : IntKind.i64.wrap (d : Int) = d := by rw [IntKind.wrap_i64]; omega
 have e3 : (d : Int).tmod 16 = z := by rw [Int.tmod_eq_emod_of_nonneg (by omega)]; omega
 have e3' : (d : Int) % 16 = z := by omega
 have hR0 := fun w => refZeros z (by omega) w
 obtain ⟨zz, hzz⟩ : ∃ l, l = List.replicate z (0 : UInt8) := ⟨_, rfl⟩
 have hzl : zz.length = z := by rw [hzz]; simp
 rw [← hzz] at hR0 hfin
 have hz9 : ¬ (9223372036854775807 < b.length + zz.length) := by omega
 have hz8 : ¬ (9223372036854775807 < b.length + z) := by omega
 have HR := Lib.hid hR0
 have HF := Lib.hid hfin
 clear hR0 hfin hr hz hd hzz
 go_enter Tryz.func82, Tryz.ntmps82
 go_wp2_with (go_at_call 77; refine (HR.out _).mono ?_; rintro e w1 ⟨rfl, hp1⟩)
 go_ret
 exact ⟨by rw [HF.out]; rfl, hp1⟩
set_option maxRecDepth 100000 in
set_option maxHeartbeats 3200000 in
theorem refStream (key nonce b : Bs) (ctr : Nat) (h : fineL key nonce = true) (hc : ctr ≤ 1000) (hb : b.length ≤ 100000) (w : World) :
 Calls Tryz.prog 79 #[S key, .int .u32 (ctr : Int), S nonce, S b] w fun e w' => e = .returned (S (streamL key ctr nonce b)) ∧ Pu w w' := by
 obtain ⟨hk, hn⟩ := fineL_of h
 obtain ⟨tot, htot⟩ : ∃ t, t = streamL key ctr nonce b := ⟨_, rfl⟩
 have hlen : tot.length = b.length := by rw [htot, streamL_length]
 have HTOT := Lib.hid htot
 clear h htot
 have kem : (ByteArray.mk #[]) = bs [] := rfl
 go_enter Tryz.func79, Tryz.ntmps79
 go_wp2_with fail
 go_loopw [1, 9, 10] (fun cv ov av wr => ∃ (at' c : Nat) (out : Bs), cv = .int .u32 (c : Int) ∧ ov = S out ∧ av = .int .i64 (at' : Int) ∧ at' ≤ b.length + 63 ∧ c ≤ 1000 + at' ∧ out.length ≤ b.length ∧ out ++ streamL key c nonce (b.drop at') = tot ∧ Below w.heap.size w wr) (fun _ _ av _ => b.length + 64 - (intOf av).toNat)
 case atStart => exact ⟨0, ctr, [], rfl, rfl, rfl, by omega, by omega, by simp, by rw [List.nil_append]; exact HTOT.out.symm, Pu.refl w⟩
 case round =>
  obtain ⟨at', c, out, rfl, rfl, rfl, hat, hcl, hol, hps, hbel⟩ := hrel
  by_cases hab : at' < b.length
  · have hab' : (at' : Int) < b.length := by omega
    have hab2 : (at' : Int) ≤ b.length := by omega
    have ha0 : (0 : Int) ≤ at' := by omega
    rw [streamL_step _ _ _ _ (by simp; omega), List.drop_drop] at hps
    obtain ⟨blk, hblk⟩ : ∃ l, l = blockL key c nonce := ⟨_, rfl⟩
    have hblkl : blk.length = 64 := by rw [hblk, blockL_length]
    have hcut := xorL_cut (b.drop at') blk 64 hblkl
    rw [← hblk, ← hcut] at hps
    obtain ⟨xo, hxo⟩ : ∃ l, l = xorL (b.drop at') blk := ⟨_, rfl⟩
    rw [← hxo, ← List.append_assoc] at hps
    have hxl : out.length + xo.length ≤ b.length := by
     have := congrArg List.length hps
     simp only [List.length_append] at this; omega
    have hBl := fun w => refBlock key nonce c hk hn (by omega) w
    have hXo := fun w => refXor (b.drop at') blk (.inr (by omega)) w
    rw [← hblk] at hBl
    rw [← hxo] at hXo
    have htk : b.take b.length = b := List.take_length
    have z9 : ¬ (9223372036854775807 < out.length + xo.length) := by omega
    have e1 : IntKind.u32.wrap ((c : Int) + 1) = c + 1 := by rw [IntKind.wrap_u32]; omega
    have HPS := Lib.hid hps
    have HBL := Lib.hid hBl
    have HXO := Lib.hid hXo
    clear hps hBl hXo hblk hxo hcut
    have cB : ∀ args w, (callFunc 81 args).run Tryz.prog w = .ok (.enter 81 args) w := fun args w => run_callFunc_body Tryz.func81 (by kernel_rfl) (by kernel_rfl) args w
    have cX : ∀ args w, (callFunc 123 args).run Tryz.prog w = .ok (.enter 123 args) w := fun args w => run_callFunc_body Tryz.func123 (by kernel_rfl) (by kernel_rfl) args w
    go_wp2_with fail
    apply region_writer (g := wr.heap.size) (n := 10) (hn := by kernel_rfl) (hlast := rfl) (hU := by kernel_rfl) (Φ1 := ([])) (Φm := Is _) (Φ2 := (Is _ :: Is _ :: Is _ :: Is _ :: Is _ :: Is _ :: Is _ :: Is _ :: Is _ :: [])) (hm := by kernel_rfl) (hE := by kernel_rfl) (hD := by kernel_rfl) (hsize := by kernel_rfl)
    case hop =>
     refine ⟨?_, ?_, ?_, ?_, ?_, ?_, ?_, ?_, ?_, ?_, trivial⟩
     · intro a' w' hs hp he
       have hp : Pu _ w' := hp
       have e9 := hs 9 (by kernel_rfl)
       try simp [Is, Region.binds] at he
       exact op_valB rfl (wanted_none rfl) (by first | (go_simp; done) | (go_simp; rfl) | (simp [execOp, Act.eval, go_sem, *]; done) | (simp [execOp, Act.eval, go_sem, *]; rfl)) rfl (But.pu (Pu.refl _))
     · intro a' w' hs hp he
       have hp : But wr.heap.size _ w' := hp
       replace hp := But.toPu hp (Nat.le_refl _)
       have e3 := hs 3 (by kernel_rfl)
       try simp [Is, Region.binds] at he
       exact op_v
     · intro a' w' hs hp he
       have hp : But wr.heap.size _ w' := hp
       replace hp := But.toPu hp (Nat.le_refl _)
       have e10 := hs 10 (by kernel_rfl)
       try simp [Is, Region.binds] at he
       exact op_v
     · intro a' w' hs hp he
       have hp : But wr.heap.size _ w' := hp
       replace hp := But.toPu hp (Nat.le_refl _)
       try simp [Is, Region.binds] at he
       exact op_v
     · intro a' w' hs hp he
       have hp : But wr.heap.size _ w' := hp
       replace hp := But.toPu hp (Nat.le_refl _)
       have e0 := hs 0 (by kernel_rfl)
       try simp [Is, Region.binds] at he
       exact op_v
     · intro a' w' hs hp he
       have hp : But wr.heap.size _ w' := hp
       replace hp := But.toPu hp (Nat.le_refl _)
       have e1 := hs 1 (by kernel_rfl)
       try simp [Is, Region.binds] at he
       exact op_v
     · intro a' w' hs hp he
       have hp : But wr.heap.size _ w' := hp
       replace hp := But.toPu hp (Nat.le_refl _)
       have e2 := hs 2 (by kernel_rfl)
       try simp [Is, Region.binds] at he
       exact op_v
     · intro a' w' hs hp he
       have hp : But wr.heap.size _ w' := hp
       replace hp := But.toPu hp (Nat.le_refl _)
       try simp [Is, Region.binds] at he
       exact op_callP (HBL.out _) rfl (wanted_none rfl) (by first | (go_simp; done) | (go_simp; rfl)) (fun _ => rfl)
     · intro a' w' hs hp he
       have hp : But wr.heap.size _ w' := hp
       replace hp := But.toPu hp (Nat.le_refl _)
       try simp [Is, Region.binds] at he
       exact op_callP (HXO.out _) rfl (wanted_none rfl) (by first | (go_simp; done) | (go_simp; rfl)) (fun _ => rfl)
     · intro a' w' hs hp he
       have hp : But wr.heap.size _ w' := hp
       replace hp := But.toPu hp (Nat.le_refl _)
       try simp [Is, Region.binds] at he
       exact op_v
    case hend =>
     intro a' w' hdef hsz hs hp hall
     replace hp := But.toPu hp (Nat.le_refl _)
     obtain ⟨r0, r1, r2, r3, r4, r5, r6, r7, r8, r9, -⟩ := hall
     have hA := agree_done (agree_step (agree_step (agree_step (agree_step (agree_step (agree_step (agree_step (agree_step (agree_step (agree_step (agree_initL [17, 18, 19, 20, 21, 22, 23, 24, 25, 26] hsz hs (by kernel_rfl)) r0) r1) r2) r3) r4) r5) r6) r7) r8) r9)
     have ha := act_of hA hdef
     rw [ha]
     clear ha hA hs hsz hdef r0 r1 r2 r3 r4 r5 r6 r7 r8 r9 
     (try simp only [List.setIfInBounds_toArray])
     (try dsimp only [List.set_cons_zero, List.set_cons_succ])
     (try simp only [Exit.then])
     refine op_run rfl (wanted_none rfl) (by first | (go_simp; done) | (go_simp; rfl) | (go_simp; exact ⟨rfl, rfl⟩)) ?_
     (try simp only [Act.put, List.setIfInBounds_toArray])
     (try dsimp only [List.set_cons_zero, List.set_cons_succ])
     (try simp only [Exit.inBlock, Exit.then])
     have hbel2 := hbel.trans (Below.mono hp hbel.size)
     clear hp
     go_wp2_with fail
     go_roundw
     case rel => first | exact ⟨at' + 64, c + 1, out ++ xo, by go_num, rfl, by go_num, by omega, by omega, by simp; omega, HPS.out, hbel2⟩ | ((repeat apply Exists.intro); exact ⟨⟨at' + 64, c + 1, out ++ xo, by go_num, rfl, by go_num, by omega, by omega, by simp; omega, HPS.out, hbel2⟩, rfl⟩)
     case measure => simp [intOf]; omega
  · have hab' : decide ((at' : Int) < b.length) = false := by simp; omega
    rw [List.drop_of_length_le (by omega), streamL_nil, List.append_nil] at hps
    subst hps
    go_wp2_with fail
    go_ret
    exact ⟨by rw [← HTOT.out]; rfl, hbel⟩
set_option maxRecDepth 100000 in
set_option maxHeartbeats 1600000 in
theorem refBoxYes (key nonce plain more : Bs) (h : fineL key nonce = true) (hh : plain.length ≤ 90000) (hm : more.length ≤ 100000) (w : World) :
 Calls Tryz.prog 27 #[S key, S nonce, S plain, S more] w fun e w' => e = .returned (.tuple #[S (sealL key nonce plain more), .bool true]) ∧ Pu w w' := by
 have hFi := fun w => fineYes key nonce h w
 have hX := fun w => refStream key nonce plain 1 h (by omega) (by omega) w
 rw [show ((1 : Nat) : Int) = 1 from rfl] at hX
 have hcl := streamL_length key 1 nonce plain
 obtain ⟨hidden, hc⟩ : ∃ l, l = streamL key 1 nonce plain := ⟨_, rfl⟩
 rw [← hc] at hX hcl
 obtain ⟨hk, hn⟩ := fineL_of h
 have hB := fun w => refBlock key nonce 0 hk hn (by omega) w
 rw [show ((0 : Nat) : Int) = 0 from rfl] at hB
 obtain ⟨blk, hblk⟩ : ∃ l, l = blockL key 0 nonce := ⟨_, rfl⟩
 have hbl : blk.length = 64 := by rw [hblk, blockL_length]
 rw [← hblk] at hB
 have hP1 := fun w => refPutLittle (more.length : Int) 8 w (by omega) (by omega) (by omega) (by omega)
 have hP2 := fun w => refPutLittle (hidden.length : Int) 8 w (by omega) (by omega) (by omega) (by omega)
 rw [show ((more.length : Int)).toNat = more.length from rfl, show ((8 : Int)).toNat = 8 from rfl] at hP1
 rw [show ((hidden.length : Int)).toNat = hidden.length from rfl, show ((8 : Int)).toNat = 8 from rfl] at hP2
 obtain ⟨p1, hp1⟩ : ∃ l, l = putL more.length 8 := ⟨_, rfl⟩
 obtain ⟨p2, hp2⟩ : ∃ l, l = putL hidden.length 8 := ⟨_, rfl⟩
 have hp1l : p1.length = 8 := by rw [hp1, putL_length]
 have hp2l : p2.length = 8 := by rw [hp2, putL_length]
 rw [← hp1] at hP1
 rw [← hp2] at hP2
 have hF1 := fun w => refFilled more (by omega) w
 have hF2 := fun w => refFilled hidden (by omega) w
 have hfl1 := filledL_length more
 have hfl2 := filledL_length hidden
 obtain ⟨f1, hf1⟩ : ∃ l, l = filledL more := ⟨_, rfl⟩
 obtain ⟨f2, hf2⟩ : ∃ l, l = filledL hidden := ⟨_, rfl⟩
 rw [← hf1] at hF1 hfl1
 rw [← hf2] at hF2 hfl2
 obtain ⟨all, hall⟩ : ∃ l, l = f1 ++ (f2 ++ (p1 ++ p2)) := ⟨_, rfl⟩
 have hall' : f1 ++ (f2 ++ (p1 ++ p2)) = all := hall.symm
 have hal : all.length ≤ 300000 := by rw [hall]; simp; omega
 have hT := fun w => refTag (blk.take 32) all (by simp; omega) (by omega) w
 have htl := tagL_length (blk.take 32) all
 obtain ⟨t, ht⟩ : ∃ l, l = tagL (blk.take 32) all := ⟨_, rfl⟩
 rw [← ht] at hT htl
 have hfin : sealL key nonce plain more = hidden ++ t := by rw [ht, hall]; simp only [sealL, boxTag, ← hc, ← hblk, ← hf1, ← hf2, ← hp1, ← hp2, List.append_assoc]
 have w1' : IntKind.u64.wrap (more.length : Int) = more.length := by rw [IntKind.wrap_u64]; omega
 have w2' : IntKind.u64.wrap (hidden.length : Int) = hidden.length := by rw [IntKind.wrap_u64]; omega
 have w3' : IntKind.u64.wrap (plain.length : Int) = plain.length := by rw [IntKind.wrap_u64]; omega
 have z2 : ¬ (9223372036854775807 < f1.length + f2.length) := by omega
 have z3 : ¬ (9223372036854775807 < f1.length + f2.length + 8) := by omega
 have z4 : ¬ (9223372036854775807 < f1.length + (f2.length + 8)) := by omega
 have z5 : ¬ (9223372036854775807 < f1.length + (f2.length + 8) + 8) := by omega
 have z6 : ¬ (9223372036854775807 < f1.length + f2.length + 8 + 8) := by omega
 have z7 : ¬ (9223372036854775807 < f1.length + (f2.length + (8 + 8))) := by omega
 have z8 : ¬ (9223372036854775807 < hidden.length + t.length) := by omega
 have z9 : ¬ (9223372036854775807 < plain.length + 16) := by omega
 have z10 : ¬ (9223372036854775807 < hidden.length + 16) := by omega
 have HFI := Lib.hid hFi
 have HX := Lib.hid hX
 have HB := Lib.hid hB
 have HP1 := Lib.hid hP1
 have HP2 := Lib.hid hP2
 have HF1 := Lib.hid hF1
 have HF2 := Lib.hid hF2
 have HT := Lib.hid hT
 have HFIN := Lib.hid hfin
 have HCL := Lib.hid hcl
 clear h hFi hX hB hP1 hP2 hF1 hF2 hT hfin hblk hp1 hp2 hf1 hf2 hall hc ht hcl hk hn
 go_enter Tryz.func27, Tryz.ntmps27
 go_wp2_with (first
  | (go_at_call 78; refine (HFI.out _).mono ?_; rintro e w1 ⟨rfl, hw1⟩; subst w1)
  | (go_at_call 79; refine (HX.out _).mono ?_; rintro e w2 ⟨rfl, hpu⟩))
 have cB : ∀ args w, (callFunc 81 args).run Tryz.prog w = .ok (.enter 81 args) w := fun args w => run_callFunc_body Tryz.func81 (by kernel_rfl) (by kernel_rfl) args w
 have cF : ∀ args w, (callFunc 82 args).run Tryz.prog w = .ok (.enter 82 args) w := fun args w => run_callFunc_body Tryz.func82 (by kernel_rfl) (by kernel_rfl) args w
 have cT : ∀ args w, (callFunc 80 args).run Tryz.prog w = .ok (.enter 80 args) w := fun args w => run_callFunc_body Tryz.func80 (by kernel_rfl) (by kernel_rfl) args w
 have cP : ∀ args w, (callFunc 83 args).run Tryz.prog w = .ok (.enter 83 args) w := fun args w => run_callFunc_body Tryz.func83 (by kernel_rfl) (by kernel_rfl) args w
 apply region_pu (Φs := (Is _ :: Is _ :: Is _ :: Is _ :: Is _ :: Is _ :: Is _ :: Is _ :: Is _ :: Is _ :: Is _ :: Is _ :: Is _ :: Is _ :: Is _ :: Is _ :: Is _ :: Is _ :: Is _ :: Is _ :: Is _ :: Is _ :: Is _ :: Is _ :: [])) (hm := by kernel_rfl) (hE := by kernel_rfl) (hD := by kernel_rfl) (hsize := by kernel_rfl)
 case hop =>
  refine ⟨?_, ?_, ?_, ?_, ?_, ?_, ?_, ?_, ?_, ?_, ?_, ?_, ?_, ?_, ?_, ?_, ?_, ?_, ?_, ?_, ?_, ?_, ?_, ?_, trivial⟩
  · intro a' w' hs hp he
    have e10 := hs 10 (by kernel_rfl)
    try simp [Is, Region.binds] at he
    exact op_v
  · intro a' w' hs hp he
    have e0 := hs 0 (by kernel_rfl)
    try simp [Is, Region.binds] at he
    exact op_v
  · intro a' w' hs hp he
    have e1 := hs 1 (by kernel_rfl)
    try simp [Is, Region.binds] at he
    exact op_v
  · intro a' w' hs hp he
    try simp [Is, Region.binds] at he
    exact op_callP (HB.out _) rfl (wanted_none rfl) (by first | (go_simp; done) | (go_simp; rfl)) (fun _ => rfl)
  · intro a' w' hs hp he
    try simp [Is, Region.binds] at he
    exact op_v
  · intro a' w' hs hp he
    have e3 := hs 3 (by kernel_rfl)
    try simp [Is, Region.binds] at he
    exact op_v
  · intro a' w' hs hp he
    try simp [Is, Region.binds] at he
    exact op_callP (HF1.out _) rfl (wanted_none rfl) (by first | (go_simp; done) | (go_simp; rfl)) (fun _ => rfl)
  · intro a' w' hs hp he
    have e10 := hs 10 (by kernel_rfl)
    try simp [Is, Region.binds] at he
    exact op_v
  · intro a' w' hs hp he
    try simp [Is, Region.binds] at he
    exact op_callP (HF2.out _) rfl (wanted_none rfl) (by first | (go_simp; done) | (go_simp; rfl)) (fun _ => rfl)
  · intro a' w' hs hp he
    try simp [Is, Region.binds] at he
    exact op_v
  · intro a' w' hs hp he
    have e3 := hs 3 (by kernel_rfl)
    try simp [Is, Region.binds] at he
    exact op_v
  · intro a' w' hs hp he
    try simp [Is, Region.binds] at he
    exact op_v
  · intro a' w' hs hp he
    try simp [Is, Region.binds] at he
    exact op_v
  · intro a' w' hs hp he
    try simp [Is, Region.binds] at he
    exact op_callP (HP1.out _) rfl (wanted_none rfl) (by first | (go_simp; done) | (go_simp; rfl)) (fun _ => rfl)
  · intro a' w' hs hp he
    try simp [Is, Region.binds] at he
    exact op_v
  · intro a' w' hs hp he
    have e10 := hs 10 (by kernel_rfl)
    try simp [Is, Region.binds] at he
    exact op_v
  · intro a' w' hs hp he
    try simp [Is, Region.binds] at he
    exact op_v
  · intro a' w' hs hp he
    try simp [Is, Region.binds] at he
    exact op_v
  · intro a' w' hs hp he
    try simp [Is, Region.binds] at he
    exact op_callP (HP2.out _) rfl (wanted_none rfl) (by first | (go_simp; done) | (go_simp; rfl)) (fun _ => rfl)
  · intro a' w' hs hp he
    try simp [Is, Region.binds] at he
    exact op_v
  · intro a' w' hs hp he
    try simp [Is, Region.binds] at he
    exact op_callP (HT.out _) rfl (wanted_none rfl) (by first | (go_simp; done) | (go_simp; rfl)) (fun _ => rfl)
  · intro a' w' hs hp he
    try simp [Is, Region.binds] at he
    exact op_v
  · intro a' w' hs hp he
    try simp [Is, Region.binds] at he
    exact op_v
  · intro a' w' hs hp he
    try simp [Is, Region.binds] at he
    exact op_v
 case hend =>
  intro a' w' hdef hsz hs hp hall
  obtain ⟨r0, r1, r2, r3, r4, r5, r6, r7, r8, r9, r10, r11, r12, r13, r14, r15, r16, r17, r18, r19, r20, r21, r22, r23, -⟩ := hall
  have hA := agree_done (agree_step (agree_step (agree_step (agree_step (agree_step (agree_step (agree_step (agree_step (agree_step (agree_step (agree_step (agree_step (agree_step (agree_step (agree_step (agree_step (agree_step (agree_step (agree_step (agree_step (agree_step (agree_step (agree_step (agree_step (agree_init [19, 20, 21, 22, 23, 24, 25, 26, 27, 28, 29, 30, 31, 32, 33, 34, 35, 36, 37, 38, 39, 40, 8, 9] hsz hs (by kernel_rfl)) r0) r1) r2) r3) r4) r5) r6) r7) r8) r9) r10) r11) r12) r13) r14) r15) r16) r17) r18) r19) r20) r21) r22) r23)
  have ha := act_of hA hdef
  rw [ha]
  clear ha hA hs hsz hdef r0 r1 r2 r3 r4 r5 r6 r7 r8 r9 r10 r11 r12 r13 r14 r15 r16 r17 r18 r19 r20 r21 r22 r23 
  (try simp only [List.setIfInBounds_toArray])
  (try dsimp only [List.set_cons_zero, List.set_cons_succ])
  (try simp only [Exit.then])
  go_wp2_with fail
  go_ret2
  exact ⟨by rw [HFIN.out]; rfl, Pu.trans hpu hp⟩
set_option maxHeartbeats 1600000 in
theorem refUnbox (key nonce b more : Bs) (hh : b.length ≤ 90000) (hm : more.length ≤ 100000) (w : World) :
 Calls Tryz.prog 89 #[S key, S nonce, S b, S more] w fun e w' => e = .returned (rb (openR key nonce b more)) ∧ Pu w w' := by
 cases hf : fineL key nonce with
 | false =>
   rw [openR_no b more hf]
   have hFi := fun w => fineNo key nonce hf w
   have HFI := Lib.hid hFi
   clear hf hFi
   go_enter Tryz.func89, Tryz.ntmps89
   go_wp2_with (go_at_call 78; refine (HFI.out _).mono ?_; rintro e w1 ⟨rfl, hw1⟩; subst w1)
   go_ret2
   exact ⟨rfl, Pu.refl _⟩
 | true =>
   have hFi := fun w => fineYes key nonce hf w
   have HFI := Lib.hid hFi
   clear hFi
   by_cases h16 : b.length < 16
   · rw [openR_short key nonce more h16]
     have h16' : (b.length : Int) < 16 := by omega
     clear hf
     go_enter Tryz.func89, Tryz.ntmps89
     go_wp2_with (go_at_call 78; refine (HFI.out _).mono ?_; rintro e w1 ⟨rfl, hw1⟩; subst w1)
     go_ret2
     exact ⟨rfl, Pu.refl _⟩
   · have h16' : decide ((b.length : Int) < 16) = false := by simp; omega
     have h16n : ¬ ((b.length : Int) < 16) := by omega
     obtain ⟨at', hat⟩ : ∃ n : Nat, n = b.length - 16 := ⟨_, rfl⟩
     have q2 : (b.length : Int) - 16 = at' := by omega
     have q2w : IntKind.i64.wrap (at' : Int) = at' := by rw [IntKind.wrap_i64]; omega
     have q4 : (0 : Int) ≤ at' := by omega
     have q5 : (at' : Int) ≤ b.length := by omega
     have hS := fun w => refStream key nonce (b.take at') 1 hf (by omega) (by simp; omega) w
     rw [show ((1 : Nat) : Int) = 1 from rfl] at hS
     have hcl := streamL_length key 1 nonce (b.take at')
     obtain ⟨p, hp⟩ : ∃ l, l = streamL key 1 nonce (b.take at') := ⟨_, rfl⟩
     rw [← hp] at hS hcl
     have hpl : p.length ≤ 90000 := by rw [hcl]; simp; omega
     have hBx := fun w => refBoxYes key nonce p more hf hpl hm w
     have hun := unboxR_eq key nonce b more
     rw [unboxR, ← hat, ← hp] at hun
     obtain ⟨c, hc⟩ : ∃ l, l = sealL key nonce p more := ⟨_, rfl⟩
     rw [← hc] at hBx hun
     have HS := Lib.hid hS
     have HBX := Lib.hid hBx
     have h16g : 16 ≤ b.length := by omega
     by_cases hcb : c = b
     · have hres : openR key nonce b more = (p, true) := by rw [← hun, if_pos (by simp [hf, hcb, h16g])]
       rw [hres]
       have hq : (c != b) = false := by simp [hcb]
       have HQ := Lib.hid hcb
       clear hun hres hS hBx hc hp hcl hat hf hq
       obtain rfl := HQ.out
       go_enter Tryz.func89, Tryz.ntmps89
       go_wp2_with (first
        | (go_at_call 78; refine (HFI.out _).mono ?_; rintro e w1 ⟨rfl, hw1⟩; subst w1)
        | (go_at_call 79; refine (HS.out _).mono ?_; rintro e w2 ⟨rfl, hp2⟩)
        | (go_at_call 27; refine (HBX.out _).mono ?_; rintro e w3 ⟨rfl, hp3⟩))
       go_ret2
       exact ⟨rfl, Pu.trans hp2 hp3⟩
     · have hres : openR key nonce b more = ([], false) := by rw [← hun, if_neg (by simp [hcb])]
       rw [hres]
       have hne : ¬ (bs c = bs b) := fun h => hcb (bs_inj h)
       have hne3 : (c == b) = false := beq_eq_false_iff_ne.2 hcb
       clear hun hres hS hBx hc hp hcl hat hf hcb
       go_enter Tryz.func89, Tryz.ntmps89
       go_wp2_with (first
        | (go_at_call 78; refine (HFI.out _).mono ?_; rintro e w1 ⟨rfl, hw1⟩; subst w1)
        | (go_at_call 79; refine (HS.out _).mono ?_; rintro e w2 ⟨rfl, hp2⟩)
        | (go_at_call 27; refine (HBX.out _).mono ?_; rintro e w3 ⟨rfl, hp3⟩))
       go_ret2
       exact ⟨rfl, Pu.trans hp2 hp3⟩
end Go.Proofs.YtoakccknimoogaaGreat
namespace Go.Proofs.YtoakccknimoogaaGreat
open Go.RowKit Go.Esc
end Go.Proofs.YtoakccknimoogaaGreat
namespace Go.Esc
open Go Go.RowKit
def opsOf : Code → Nat → Array Oper
 | .region i o _, n => if i = n then o else #[]
 | .seq a b, n => let x := opsOf a n; if x.size = 0 then opsOf b n else x
 | .cond _ a b, n => let x := opsOf a n; if x.size = 0 then opsOf b n else x
 | .block _ b, n => opsOf b n
 | .loop b, n => opsOf b n
 | .scope b, n => opsOf b n
 | _, _ => #[]
def opsIn (f : Func) (n : Nat) : Array Oper := match f.body with | some c => opsOf c n | none => #[]
end Go.Esc
namespace Go.Proofs.YtoakccknimoogaaGreat
open Go.RowKit Go.Esc
theorem refRight (x : BitVec 32) (n : Int) (h1 : 0 < n) (h2 : n < 32) (w : World) :
 Calls Tryz.prog 157 #[V x, .int .i64 (-n)] w fun e w' => e = .returned (V (rotr x n.toNat)) ∧ w' = w := by
 have e : (-n % 32).toNat = (32 - n.toNat % 32) % 32 := by omega
 have hl := refLeft x (-n) (by omega) (by omega) w
 rw [e] at hl
 exact hl
theorem refLeftRun : ∀ args w, (callFunc 157 args).run Tryz.prog w = .ok (.enter 157 args) w := fun args w => run_callFunc_body Tryz.func157 (by kernel_rfl) (by kernel_rfl) args w
theorem wrap32_wd (y : Wd) : IntKind.u32.wrap (wd y) = wd y := by have := wd_nonneg y; have := wd_lt y; rw [IntKind.wrap_u32]; omega
def row27 (x : St) (T1 T2 : Wd) : List Value := [V (T1 + T2), V x.a, V x.b, V x.c, V (x.d + T1), V x.e, V x.f, V x.g]
def t1Of (x : St) (kn wn : Wd) : Wd := x.h + (rotr x.e 6 ^^^ rotr x.e 11 ^^^ rotr x.e 25) + (x.e &&& x.f ^^^ ~~~x.e &&& x.g) + kn + wn
def t2Of (x : St) : Wd := (rotr x.a 2 ^^^ rotr x.a 13 ^^^ rotr x.a 22) + (x.a &&& x.b ^^^ x.a &&& x.c ^^^ x.b &&& x.c)
theorem row27_step (x : St) (kn wn : Wd) : row27 x (t1Of x kn wn) (t2Of x) = vs (Esc.step x kn wn).l := rfl
end Go.Proofs.YtoakccknimoogaaGreat
set_option linter.unusedSimpArgs false
set_option linter.unusedVariables false
namespace Go.Proofs.YtoakccknimoogaaGreat
open Go.RowKit Go.Esc
set_option maxRecDepth 100000 in
set_option maxHeartbeats 3200000 in
theorem reg16 {u0 u1 u2 u3 u4 u5 u6 u9 u10 u11 u12 u13 u14 u15 u16 u17 u18 u19 u20 u21 u22 u23 u24 u25 u26 u27 u28 u29 u30 u31 u32 u33 u34 u35 u36 u37 u38 u39 u40 u41 u42 u43 u44 u45 u46 u47 u48 u49 u50 u51 u52 u53 u54 u55 u56 u57 u58 u59 u60 u61 u62 u63 u64 u65 u66 u67 u68 u69 u70 u71 u72 u73 u74 u75 u76 u77 u78 u79 u80 u81 u82 u83 u84 u85 u86 u87 u88 u89 u90 u91 u92 u93 u94 u95 u96 u97 u98 u99 u100 u101 u102 u103 u104 u105 u106 u107 u108 u109 u110 u111 u112 u113 u114 u115 u116 u117 u118 u119 u120 u121 u122 u123 u124 u125 u126 u127 u128 u129 u130 u131 u132 u133 u134 u135 u136 u137 u138 u139 u140 u141 u142 u143 u144 u145 u146 u147 u148 u149 u150 u151 u152 u153 u154 u155 u156 u157 u158 u159 u160 u161 u162 u163 u164 u165 u166 u167 u168 u169 u170 u171 u172 u173 u174 u175 u176 u177 u178 u179 u180 u181 u182 u183 u184 u185 u186 u187 u188 u189 u190 u191 u192 u193 u194 u195 u196 u197 u198 u199 u200 u201 u202 u203 u204 u205 u206 u207 u208 u209 u210 u211 u212 u213 u214 u215 u216 u217 u218 u219 u220 u221 u222 u223 u224 u225 u226 u227 u228 u229 u230 u231 u232 u233 u234 : Value} {wb t : Nat} {xx yy : Wd} (ht : t < 64) (h16 : 16 ≤ t) {w : World} {Q : Exit → Act → World → Prop} (h1 : ∀ w', Pu w w' → w'.cell? ⟨wb, t - 15, none⟩ = some (V xx)) (h2 : ∀ w', Pu w w' → w'.cell? ⟨wb, t - 2, none⟩ = some (V yy))
 (hQ : ∀ (w' : World), Pu w w' → Q .normal ⟨#[u0, u1, u2, u3, u4, u5, u6, (.pointer (some ⟨wb, 0, none⟩)), (.int .i64 (t : Int)), (V xx), (V yy), u11, u12, u13, u14, u15, u16, u17, u18, u19, u20, u21, u22, u23, u24, u25, u26, u27, u28, u29, u30, u31, u32, u33, u34, u35, u36, u37, u38, u39, u40, u41, u42, u43, u44, u45, u46, u47, u48, u49, u50, u51, u52, u53, u54, u55, u56, u57, u58, u59, u60, u61, u62, u63, u64, u65, (.int .i64 (t : Int)), (.int .i64 ((t : Int) - 15)), (.pointer (some ⟨wb, t - 15, none⟩)), (V xx), (.int .i64 (t : Int)), (.int .i64 ((t : Int) - 2)), (.pointer (some ⟨wb, t - 2, none⟩)), (V yy), u74, u75, u76, u77, u78, u79, u80, u81, u82, u83, u84, u85, u86, u87, u88, u89, u90, u91, u92, u93, u94, u95, u96, u97, u98, u99, u100, u101, u102, u103, u104, u105, u106, u107, u108, u109, u110, u111, u112, u113, u114, u115, u116, u117, u118, u119, u120, u121, u122, u123, u124, u125, u126, u127, u128, u129, u130, u131, u132, u133, u134, u135, u136, u137, u138, u139, u140, u141, u142, u143, u144, u145, u146, u147, u148, u149, u150, u151, u152, u153, u154, u155, u156, u157, u158, u159, u160, u161, u162, u163, u164, u165, u166, u167, u168, u169, u170, u171, u172, u173, u174, u175, u176, u177, u178, u179, u180, u181, u182, u183, u184, u185, u186, u187, u188, u189, u190, u191, u192, u193, u194, u195, u196, u197, u198, u199, u200, u201, u202, u203, u204, u205, u206, u207, u208, u209, u210, u211, u212, u213, u214, u215, u216, u217, u218, u219, u220, u221, u222, u223, u224, u225, u226, u227, u228, u229, u230, u231, u232, u233, u234], []⟩ w') :
 (Code.region 16 (opsIn Tryz.f158 16) true).wp Tryz.prog Q ⟨#[u0, u1, u2, u3, u4, u5, u6, (.pointer (some ⟨wb, 0, none⟩)), (.int .i64 (t : Int)), u9, u10, u11, u12, u13, u14, u15, u16, u17, u18, u19, u20, u21, u22, u23, u24, u25, u26, u27, u28, u29, u30, u31, u32, u33, u34, u35, u36, u37, u38, u39, u40, u41, u42, u43, u44, u45, u46, u47, u48, u49, u50, u51, u52, u53, u54, u55, u56, u57, u58, u59, u60, u61, u62, u63, u64, u65, u66, u67, u68, u69, u70, u71, u72, u73, u74, u75, u76, u77, u78, u79, u80, u81, u82, u83, u84, u85, u86, u87, u88, u89, u90, u91, u92, u93, u94, u95, u96, u97, u98, u99, u100, u101, u102, u103, u104, u105, u106, u107, u108, u109, u110, u111, u112, u113, u114, u115, u116, u117, u118, u119, u120, u121, u122, u123, u124, u125, u126, u127, u128, u129, u130, u131, u132, u133, u134, u135, u136, u137, u138, u139, u140, u141, u142, u143, u144, u145, u146, u147, u148, u149, u150, u151, u152, u153, u154, u155, u156, u157, u158, u159, u160, u161, u162, u163, u164, u165, u166, u167, u168, u169, u170, u171, u172, u173, u174, u175, u176, u177, u178, u179, u180, u181, u182, u183, u184, u185, u186, u187, u188, u189, u190, u191, u192, u193, u194, u195, u196, u197, u198, u199, u200, u201, u202, u203, u204, u205, u206, u207, u208, u209, u210, u211, u212, u213, u214, u215, u216, u217, u218, u219, u220, u221, u222, u223, u224, u225, u226, u227, u228, u229, u230, u231, u232, u233, u234], []⟩ w := by
 dsimp only [opsIn, opsOf, Tryz.f158]
 have e15 : ((t : Int) - 15).toNat = t - 15 := by omega
 have e2 : ((t : Int) - 2).toNat = t - 2 := by omega
 have e16 : ((t : Int) - 16).toNat = t - 16 := by omega
 have e7 : ((t : Int) - 7).toNat = t - 7 := by omega
 have f15 : (0 : Int) ≤ t - 15 := by omega
 have f2 : (0 : Int) ≤ t - 2 := by omega
 have f16 : (0 : Int) ≤ t - 16 := by omega
 have f7 : (0 : Int) ≤ t - 7 := by omega
 have g15 : (t : Int) - 15 < 64 := by omega
 have g2 : (t : Int) - 2 < 64 := by omega
 have g16 : (t : Int) - 16 < 64 := by omega
 have g7 : (t : Int) - 7 < 64 := by omega
 have i15 : IntKind.i64.wrap ((t : Int) - 15) = t - 15 := by rw [IntKind.wrap_i64]; omega
 have i2 : IntKind.i64.wrap ((t : Int) - 2) = t - 2 := by rw [IntKind.wrap_i64]; omega
 have i16 : IntKind.i64.wrap ((t : Int) - 16) = t - 16 := by rw [IntKind.wrap_i64]; omega
 have i7 : IntKind.i64.wrap ((t : Int) - 7) = t - 7 := by rw [IntKind.wrap_i64]; omega
 have h0t : (0 : Int) ≤ t := by omega
 have h64t : (t : Int) < 64 := by omega
 have q16 : (16 : Int) ≤ t := by omega
 have q15 : (15 : Int) ≤ t := by omega
 have q2 : (2 : Int) ≤ t := by omega
 have q7 : (7 : Int) ≤ t := by omega
 apply region_pu (Φs := (Is _ :: Is _ :: Is _ :: Is _ :: Is _ :: Is _ :: Is _ :: Is _ :: Is _ :: Is _ :: [])) (hm := by kernel_rfl) (hE := by kernel_rfl) (hD := by kernel_rfl) (hsize := by kernel_rfl)
 case hop =>
  refine ⟨?_, ?_, ?_, ?_, ?_, ?_, ?_, ?_, ?_, ?_, trivial⟩
  · intro a' w' hs hp he
    have e8 := hs 8 (by kernel_rfl)
    try simp [Is, Region.binds] at he
    exact op_v
  · intro a' w' hs hp he
    try simp [Is, Region.binds] at he
    exact op_v
  · intro a' w' hs hp he
    have e7 := hs 7 (by kernel_rfl)
    try simp [Is, Region.binds] at he
    exact op_v
  · intro a' w' hs hp he
    try simp [Is, Region.binds] at he
    have c := h1 w' hp; exact op_val rfl (wanted_none rfl) (by first | (go_simp; done) | (go_simp; rfl)) rfl (Pu.refl _)
  · intro a' w' hs hp he
    have e8 := hs 8 (by kernel_rfl)
    try simp [Is, Region.binds] at he
    exact op_v
  · intro a' w' hs hp he
    try simp [Is, Region.binds] at he
    exact op_v
  · intro a' w' hs hp he
    have e7 := hs 7 (by kernel_rfl)
    try simp [Is, Region.binds] at he
    exact op_v
  · intro a' w' hs hp he
    try simp [Is, Region.binds] at he
    have c := h2 w' hp; exact op_val rfl (wanted_none rfl) (by first | (go_simp; done) | (go_simp; rfl)) rfl (Pu.refl _)
  · intro a' w' hs hp he
    try simp [Is, Region.binds] at he
    exact op_v
  · intro a' w' hs hp he
    try simp [Is, Region.binds] at he
    exact op_v
 case hend =>
  intro a' w' hdef hsz hs hp hall
  obtain ⟨r0, r1, r2, r3, r4, r5, r6, r7, r8, r9, -⟩ := hall
  have hA := agree_done (agree_step (agree_step (agree_step (agree_step (agree_step (agree_step (agree_step (agree_step (agree_step (agree_step (agree_init [66, 67, 68, 69, 70, 71, 72, 73, 9, 10] hsz hs (by kernel_rfl)) r0) r1) r2) r3) r4) r5) r6) r7) r8) r9)
  have ha := act_of hA hdef
  rw [ha]
  clear ha hA hs hsz hdef r0 r1 r2 r3 r4 r5 r6 r7 r8 r9 
  (try simp only [List.setIfInBounds_toArray])
  (try dsimp only [List.set_cons_zero, List.set_cons_succ])
  (try simp only [Exit.then])
  exact hQ _ hp
end Go.Proofs.YtoakccknimoogaaGreat
set_option linter.unusedSimpArgs false
set_option linter.unusedVariables false
namespace Go.Proofs.YtoakccknimoogaaGreat
open Go.RowKit Go.Esc
set_option maxRecDepth 100000 in
set_option maxHeartbeats 3200000 in
theorem reg19 {u0 u1 u2 u3 u4 u5 u6 u9 u10 u13 u14 u15 u16 u17 u18 u19 u20 u21 u22 u23 u24 u25 u26 u27 u28 u29 u30 u31 u32 u33 u34 u35 u36 u37 u38 u39 u40 u41 u42 u43 u44 u45 u46 u47 u48 u49 u50 u51 u52 u53 u54 u55 u56 u57 u58 u59 u60 u61 u62 u63 u64 u65 u66 u67 u68 u69 u70 u71 u72 u73 u74 u75 u76 u77 u78 u79 u80 u81 u82 u83 u84 u85 u86 u87 u88 u89 u90 u91 u92 u93 u94 u95 u96 u97 u98 u99 u100 u101 u102 u103 u104 u105 u106 u107 u108 u109 u110 u111 u112 u113 u114 u115 u116 u117 u118 u119 u120 u121 u122 u123 u124 u125 u126 u127 u128 u129 u130 u131 u132 u133 u134 u135 u136 u137 u138 u139 u140 u141 u142 u143 u144 u145 u146 u147 u148 u149 u150 u151 u152 u153 u154 u155 u156 u157 u158 u159 u160 u161 u162 u163 u164 u165 u166 u167 u168 u169 u170 u171 u172 u173 u174 u175 u176 u177 u178 u179 u180 u181 u182 u183 u184 u185 u186 u187 u188 u189 u190 u191 u192 u193 u194 u195 u196 u197 u198 u199 u200 u201 u202 u203 u204 u205 u206 u207 u208 u209 u210 u211 u212 u213 u214 u215 u216 u217 u218 u219 u220 u221 u222 u223 u224 u225 u226 u227 u228 u229 u230 u231 u232 u233 u234 : Value} {wb t : Nat} {aa dd s0 s1 : Wd} {c0 : Value} (ht : t < 64) (h16 : 16 ≤ t) {w : World} {Q : Exit → Act → World → Prop} (h1 : ∀ w', Pu w w' → w'.cell? ⟨wb, t - 16, none⟩ = some (V aa)) (h2 : ∀ w', Pu w w' → w'.cell? ⟨wb, t - 7, none⟩ = some (V dd)) (h3 : ∀ w', Pu w w' → w'.cell? ⟨wb, t, none⟩ = some c0) (h4 : ∀ w', Pu w w' → w'.frozen? ⟨wb, t, none⟩ = false)
 (hQ : ∀ (w' : World), Pu w w' → Q .normal ⟨#[u0, u1, u2, u3, u4, u5, u6, (.pointer (some ⟨wb, 0, none⟩)), (.int .i64 (t : Int)), u9, u10, (V s0), (V s1), u13, u14, u15, u16, u17, u18, u19, u20, u21, u22, u23, u24, u25, u26, u27, u28, u29, u30, u31, u32, u33, u34, u35, u36, u37, u38, u39, u40, u41, u42, u43, u44, u45, u46, u47, u48, u49, u50, u51, u52, u53, u54, u55, u56, u57, u58, u59, u60, u61, u62, u63, u64, u65, u66, u67, u68, u69, u70, u71, u72, u73, u74, u75, u76, u77, u78, u79, u80, u81, u82, u83, u84, u85, u86, u87, u88, u89, (.int .i64 (t : Int)), (.int .i64 (t : Int)), (.int .i64 ((t : Int) - 16)), (.pointer (some ⟨wb, t - 16, none⟩)), (V aa), (V s0), (V (aa + s0)), (.int .i64 (t : Int)), (.int .i64 ((t : Int) - 7)), (.pointer (some ⟨wb, t - 7, none⟩)), (V dd), (V (aa + s0 + dd)), (V s1), (V (aa + s0 + dd + s1)), (.pointer (some ⟨wb, t, none⟩)), u105, u106, u107, u108, u109, u110, u111, u112, u113, u114, u115, u116, u117, u118, u119, u120, u121, u122, u123, u124, u125, u126, u127, u128, u129, u130, u131, u132, u133, u134, u135, u136, u137, u138, u139, u140, u141, u142, u143, u144, u145, u146, u147, u148, u149, u150, u151, u152, u153, u154, u155, u156, u157, u158, u159, u160, u161, u162, u163, u164, u165, u166, u167, u168, u169, u170, u171, u172, u173, u174, u175, u176, u177, u178, u179, u180, u181, u182, u183, u184, u185, u186, u187, u188, u189, u190, u191, u192, u193, u194, u195, u196, u197, u198, u199, u200, u201, u202, u203, u204, u205, u206, u207, u208, u209, u210, u211, u212, u213, u214, u215, u216, u217, u218, u219, u220, u221, u222, u223, u224, u225, u226, u227, u228, u229, u230, u231, u232, u233, u234], []⟩ (w'.setCell ⟨wb, t, none⟩ (V (aa + s0 + dd + s1)))) :
 (Code.region 19 (opsIn Tryz.f158 19) true).wp Tryz.prog Q ⟨#[u0, u1, u2, u3, u4, u5, u6, (.pointer (some ⟨wb, 0, none⟩)), (.int .i64 (t : Int)), u9, u10, (V s0), (V s1), u13, u14, u15, u16, u17, u18, u19, u20, u21, u22, u23, u24, u25, u26, u27, u28, u29, u30, u31, u32, u33, u34, u35, u36, u37, u38, u39, u40, u41, u42, u43, u44, u45, u46, u47, u48, u49, u50, u51, u52, u53, u54, u55, u56, u57, u58, u59, u60, u61, u62, u63, u64, u65, u66, u67, u68, u69, u70, u71, u72, u73, u74, u75, u76, u77, u78, u79, u80, u81, u82, u83, u84, u85, u86, u87, u88, u89, u90, u91, u92, u93, u94, u95, u96, u97, u98, u99, u100, u101, u102, u103, u104, u105, u106, u107, u108, u109, u110, u111, u112, u113, u114, u115, u116, u117, u118, u119, u120, u121, u122, u123, u124, u125, u126, u127, u128, u129, u130, u131, u132, u133, u134, u135, u136, u137, u138, u139, u140, u141, u142, u143, u144, u145, u146, u147, u148, u149, u150, u151, u152, u153, u154, u155, u156, u157, u158, u159, u160, u161, u162, u163, u164, u165, u166, u167, u168, u169, u170, u171, u172, u173, u174, u175, u176, u177, u178, u179, u180, u181, u182, u183, u184, u185, u186, u187, u188, u189, u190, u191, u192, u193, u194, u195, u196, u197, u198, u199, u200, u201, u202, u203, u204, u205, u206, u207, u208, u209, u210, u211, u212, u213, u214, u215, u216, u217, u218, u219, u220, u221, u222, u223, u224, u225, u226, u227, u228, u229, u230, u231, u232, u233, u234], []⟩ w := by
 dsimp only [opsIn, opsOf, Tryz.f158]
 have e15 : ((t : Int) - 15).toNat = t - 15 := by omega
 have e2 : ((t : Int) - 2).toNat = t - 2 := by omega
 have e16 : ((t : Int) - 16).toNat = t - 16 := by omega
 have e7 : ((t : Int) - 7).toNat = t - 7 := by omega
 have f15 : (0 : Int) ≤ t - 15 := by omega
 have f2 : (0 : Int) ≤ t - 2 := by omega
 have f16 : (0 : Int) ≤ t - 16 := by omega
 have f7 : (0 : Int) ≤ t - 7 := by omega
 have g15 : (t : Int) - 15 < 64 := by omega
 have g2 : (t : Int) - 2 < 64 := by omega
 have g16 : (t : Int) - 16 < 64 := by omega
 have g7 : (t : Int) - 7 < 64 := by omega
 have i15 : IntKind.i64.wrap ((t : Int) - 15) = t - 15 := by rw [IntKind.wrap_i64]; omega
 have i2 : IntKind.i64.wrap ((t : Int) - 2) = t - 2 := by rw [IntKind.wrap_i64]; omega
 have i16 : IntKind.i64.wrap ((t : Int) - 16) = t - 16 := by rw [IntKind.wrap_i64]; omega
 have i7 : IntKind.i64.wrap ((t : Int) - 7) = t - 7 := by rw [IntKind.wrap_i64]; omega
 have h0t : (0 : Int) ≤ t := by omega
 have h64t : (t : Int) < 64 := by omega
 have q16 : (16 : Int) ≤ t := by omega
 have q15 : (15 : Int) ≤ t := by omega
 have q2 : (2 : Int) ≤ t := by omega
 have q7 : (7 : Int) ≤ t := by omega
 apply region_last (n := 15) (hn := by kernel_rfl) (hlast := rfl) (hU := by kernel_rfl) (Φs := (Is _ :: Is _ :: Is _ :: Is _ :: Is _ :: Is _ :: Is _ :: Is _ :: Is _ :: Is _ :: Is _ :: Is _ :: Is _ :: Is _ :: Is _ :: [])) (hm := by kernel_rfl) (hE := by kernel_rfl) (hD := by kernel_rfl) (hsize := by kernel_rfl)
 case hop =>
  refine ⟨?_, ?_, ?_, ?_, ?_, ?_, ?_, ?_, ?_, ?_, ?_, ?_, ?_, ?_, ?_, trivial⟩
  · intro a' w' hs hp he
    have e8 := hs 8 (by kernel_rfl)
    try simp [Is, Region.binds] at he
    exact op_v
  · intro a' w' hs hp he
    have e8 := hs 8 (by kernel_rfl)
    try simp [Is, Region.binds] at he
    exact op_v
  · intro a' w' hs hp he
    try simp [Is, Region.binds] at he
    exact op_v
  · intro a' w' hs hp he
    have e7 := hs 7 (by kernel_rfl)
    try simp [Is, Region.binds] at he
    exact op_v
  · intro a' w' hs hp he
    try simp [Is, Region.binds] at he
    have c := h1 w' hp; exact op_val rfl (wanted_none rfl) (by first | (go_simp; done) | (go_simp; rfl)) rfl (Pu.refl _)
  · intro a' w' hs hp he
    have e11 := hs 11 (by kernel_rfl)
    try simp [Is, Region.binds] at he
    exact op_v
  · intro a' w' hs hp he
    try simp [Is, Region.binds] at he
    exact op_v
  · intro a' w' hs hp he
    have e8 := hs 8 (by kernel_rfl)
    try simp [Is, Region.binds] at he
    exact op_v
  · intro a' w' hs hp he
    try simp [Is, Region.binds] at he
    exact op_v
  · intro a' w' hs hp he
    have e7 := hs 7 (by kernel_rfl)
    try simp [Is, Region.binds] at he
    exact op_v
  · intro a' w' hs hp he
    try simp [Is, Region.binds] at he
    have c := h2 w' hp; exact op_val rfl (wanted_none rfl) (by first | (go_simp; done) | (go_simp; rfl)) rfl (Pu.refl _)
  · intro a' w' hs hp he
    try simp [Is, Region.binds] at he
    exact op_v
  · intro a' w' hs hp he
    have e12 := hs 12 (by kernel_rfl)
    try simp [Is, Region.binds] at he
    exact op_v
  · intro a' w' hs hp he
    try simp [Is, Region.binds] at he
    exact op_v
  · intro a' w' hs hp he
    have e7 := hs 7 (by kernel_rfl)
    try simp [Is, Region.binds] at he
    exact op_v
 case hend =>
  intro a' w' hdef hsz hs hp hall
  obtain ⟨r0, r1, r2, r3, r4, r5, r6, r7, r8, r9, r10, r11, r12, r13, r14, -⟩ := hall
  have hA := agree_done (agree_step (agree_step (agree_step (agree_step (agree_step (agree_step (agree_step (agree_step (agree_step (agree_step (agree_step (agree_step (agree_step (agree_step (agree_step (agree_init [90, 91, 92, 93, 94, 95, 96, 97, 98, 99, 100, 101, 102, 103, 104] hsz hs (by kernel_rfl)) r0) r1) r2) r3) r4) r5) r6) r7) r8) r9) r10) r11) r12) r13) r14)
  have ha := act_of hA hdef
  rw [ha]
  clear ha hA hs hsz hdef r0 r1 r2 r3 r4 r5 r6 r7 r8 r9 r10 r11 r12 r13 r14 
  (try simp only [List.setIfInBounds_toArray])
  (try dsimp only [List.set_cons_zero, List.set_cons_succ])
  (try simp only [Exit.then])
  have hc := h3 w' hp; have hf := h4 w' hp
  refine op_done rfl (wanted_none rfl) (by first | (go_simp; done) | (go_simp; rfl)) ?_
  (try simp only [Exit.inBlock, Exit.then])
  exact hQ _ hp
end Go.Proofs.YtoakccknimoogaaGreat
set_option linter.unusedSimpArgs false
set_option linter.unusedVariables false
namespace Go.Proofs.YtoakccknimoogaaGreat
open Go.RowKit Go.Esc
set_option maxRecDepth 100000 in
set_option maxHeartbeats 3200000 in
theorem reg24 {u0 u1 u2 u3 u4 u5 u6 u7 u8 u9 u10 u11 u12 u14 u15 u16 u17 u18 u19 u20 u21 u22 u23 u24 u25 u26 u27 u28 u29 u30 u31 u32 u33 u34 u35 u36 u37 u38 u39 u40 u41 u42 u43 u44 u45 u46 u47 u48 u49 u50 u51 u52 u53 u54 u55 u56 u57 u58 u59 u60 u61 u62 u63 u64 u65 u66 u67 u68 u69 u70 u71 u72 u73 u74 u75 u76 u77 u78 u79 u80 u81 u82 u83 u84 u85 u86 u87 u88 u89 u90 u91 u92 u93 u94 u95 u96 u97 u98 u99 u100 u101 u102 u103 u104 u105 u106 u107 u108 u109 u110 u111 u112 u113 u114 u115 u116 u117 u118 u119 u120 u121 u122 u123 u124 u125 u126 u127 u128 u129 u130 u131 u132 u133 u134 u135 u136 u137 u138 u139 u140 u141 u142 u143 u144 u145 u146 u147 u148 u149 u150 u151 u152 u153 u154 u155 u156 u157 u158 u159 u160 u161 u162 u163 u164 u165 u166 u167 u168 u169 u170 u171 u172 u173 u174 u175 u176 u177 u178 u179 u180 u181 u182 u183 u184 u185 u186 u187 u188 u189 u190 u191 u192 u193 u194 u195 u196 u197 u198 u199 u200 u201 u202 u203 u204 u205 u206 u207 u208 u209 u210 u211 u212 u213 u214 u215 u216 u217 u218 u219 u220 u221 u222 u223 u224 u225 u226 u227 u228 u229 u230 u231 u232 u233 u234 : Value} {g cap : Nat} {x : St} {w : World} {Q : Exit → Act → World → Prop} (hx : Row w g 108 (vs x.l))
 (hQ : ∀ (w' : World), Pu w w' → Q .normal ⟨#[u0, u1, u2, u3, u4, u5, u6, u7, u8, u9, u10, u11, u12, (.slice (some ⟨g, 0, none⟩) 8 cap), u14, (V x.e), (V x.a), u17, u18, u19, u20, u21, u22, u23, u24, u25, u26, u27, u28, u29, u30, u31, u32, u33, u34, u35, u36, u37, u38, u39, u40, u41, u42, u43, u44, u45, u46, u47, u48, u49, u50, u51, u52, u53, u54, u55, u56, u57, u58, u59, u60, u61, u62, u63, u64, u65, u66, u67, u68, u69, u70, u71, u72, u73, u74, u75, u76, u77, u78, u79, u80, u81, u82, u83, u84, u85, u86, u87, u88, u89, u90, u91, u92, u93, u94, u95, u96, u97, u98, u99, u100, u101, u102, u103, u104, u105, u106, u107, u108, u109, u110, (.slice (some ⟨g, 0, none⟩) 8 cap), (.pointer (some ⟨g, 4, none⟩)), (V x.e), (.slice (some ⟨g, 0, none⟩) 8 cap), (.pointer (some ⟨g, 0, none⟩)), (V x.a), u117, u118, u119, u120, u121, u122, u123, u124, u125, u126, u127, u128, u129, u130, u131, u132, u133, u134, u135, u136, u137, u138, u139, u140, u141, u142, u143, u144, u145, u146, u147, u148, u149, u150, u151, u152, u153, u154, u155, u156, u157, u158, u159, u160, u161, u162, u163, u164, u165, u166, u167, u168, u169, u170, u171, u172, u173, u174, u175, u176, u177, u178, u179, u180, u181, u182, u183, u184, u185, u186, u187, u188, u189, u190, u191, u192, u193, u194, u195, u196, u197, u198, u199, u200, u201, u202, u203, u204, u205, u206, u207, u208, u209, u210, u211, u212, u213, u214, u215, u216, u217, u218, u219, u220, u221, u222, u223, u224, u225, u226, u227, u228, u229, u230, u231, u232, u233, u234], []⟩ w') :
 (Code.region 24 (opsIn Tryz.f158 24) true).wp Tryz.prog Q ⟨#[u0, u1, u2, u3, u4, u5, u6, u7, u8, u9, u10, u11, u12, (.slice (some ⟨g, 0, none⟩) 8 cap), u14, u15, u16, u17, u18, u19, u20, u21, u22, u23, u24, u25, u26, u27, u28, u29, u30, u31, u32, u33, u34, u35, u36, u37, u38, u39, u40, u41, u42, u43, u44, u45, u46, u47, u48, u49, u50, u51, u52, u53, u54, u55, u56, u57, u58, u59, u60, u61, u62, u63, u64, u65, u66, u67, u68, u69, u70, u71, u72, u73, u74, u75, u76, u77, u78, u79, u80, u81, u82, u83, u84, u85, u86, u87, u88, u89, u90, u91, u92, u93, u94, u95, u96, u97, u98, u99, u100, u101, u102, u103, u104, u105, u106, u107, u108, u109, u110, u111, u112, u113, u114, u115, u116, u117, u118, u119, u120, u121, u122, u123, u124, u125, u126, u127, u128, u129, u130, u131, u132, u133, u134, u135, u136, u137, u138, u139, u140, u141, u142, u143, u144, u145, u146, u147, u148, u149, u150, u151, u152, u153, u154, u155, u156, u157, u158, u159, u160, u161, u162, u163, u164, u165, u166, u167, u168, u169, u170, u171, u172, u173, u174, u175, u176, u177, u178, u179, u180, u181, u182, u183, u184, u185, u186, u187, u188, u189, u190, u191, u192, u193, u194, u195, u196, u197, u198, u199, u200, u201, u202, u203, u204, u205, u206, u207, u208, u209, u210, u211, u212, u213, u214, u215, u216, u217, u218, u219, u220, u221, u222, u223, u224, u225, u226, u227, u228, u229, u230, u231, u232, u233, u234], []⟩ w := by
 dsimp only [opsIn, opsOf, Tryz.f158]
 apply region_pu (Φs := (Is _ :: Is _ :: Is _ :: Is _ :: Is _ :: Is _ :: Is _ :: Is _ :: [])) (hm := by kernel_rfl) (hE := by kernel_rfl) (hD := by kernel_rfl) (hsize := by kernel_rfl)
 case hop =>
  refine ⟨?_, ?_, ?_, ?_, ?_, ?_, ?_, ?_, trivial⟩
  · intro a' w' hs hp he
    have e13 := hs 13 (by kernel_rfl)
    try simp [Is, Region.binds] at he
    exact op_v
  · intro a' w' hs hp he
    try simp [Is, Region.binds] at he
    exact op_v
  · intro a' w' hs hp he
    try simp [Is, Region.binds] at he
    obtain ⟨c0, c1, c2, c3, c4, c5, c6, c7⟩ := Row.st (hx.pu hp); exact op_val rfl (wanted_none rfl) (by first | (go_simp; done) | (go_simp; rfl)) rfl (Pu.refl _)
  · intro a' w' hs hp he
    have e13 := hs 13 (by kernel_rfl)
    try simp [Is, Region.binds] at he
    exact op_v
  · intro a' w' hs hp he
    try simp [Is, Region.binds] at he
    exact op_v
  · intro a' w' hs hp he
    try simp [Is, Region.binds] at he
    obtain ⟨c0, c1, c2, c3, c4, c5, c6, c7⟩ := Row.st (hx.pu hp); exact op_val rfl (wanted_none rfl) (by first | (go_simp; done) | (go_simp; rfl)) rfl (Pu.refl _)
  · intro a' w' hs hp he
    try simp [Is, Region.binds] at he
    exact op_v
  · intro a' w' hs hp he
    try simp [Is, Region.binds] at he
    exact op_v
 case hend =>
  intro a' w' hdef hsz hs hp hall
  obtain ⟨r0, r1, r2, r3, r4, r5, r6, r7, -⟩ := hall
  have hA := agree_done (agree_step (agree_step (agree_step (agree_step (agree_step (agree_step (agree_step (agree_step (agree_init [111, 112, 113, 114, 115, 116, 15, 16] hsz hs (by kernel_rfl)) r0) r1) r2) r3) r4) r5) r6) r7)
  have ha := act_of hA hdef
  rw [ha]
  clear ha hA hs hsz hdef r0 r1 r2 r3 r4 r5 r6 r7 
  (try simp only [List.setIfInBounds_toArray])
  (try dsimp only [List.set_cons_zero, List.set_cons_succ])
  (try simp only [Exit.then])
  exact hQ _ hp
end Go.Proofs.YtoakccknimoogaaGreat
