/- The document's Mac. The document's Extract, Expand, Key. The document's Turn, Nonce, Session. -/
import Derived.Test.YtoakccknimoogaaGreatU6
import Derived.RegionTactic
import Derived.Deep.OwnRows
import Derived.ChangeAlike
set_option linter.unusedSimpArgs false
set_option linter.unusedVariables false
set_option linter.unusedSimpArgs false
set_option linter.unusedVariables false
namespace Go.Proofs.YtoakccknimoogaaGreat
open Go.RowKit Go.Esc
set_option maxRecDepth 100000 in
set_option maxHeartbeats 3200000 in
theorem refMac (key b : Bs) (h : key.length ≤ 100000) (h2 : b.length ≤ 800000) (w : World) :
 Calls Tryz.prog 129 #[S key, S b] w fun e w' => e = .returned (S (macL key b)) ∧ Pu w w' := by
 have hmk : ∀ w, (Instr.makeSlice 51 (.int .i64 64) (.int .i64 64)).run Tryz.prog w = .ok (.slice (some ⟨w.heap.size, 0, none⟩) 64 64) (w.alloc (.cells (madeCells #[.int .u8 0] 64) 5)) := run_make_row' (P := Tryz.prog) 51 5 (.int .u8 0) 1 Tryz.underlying51 infoB rfl .i64 .i64 64 (by decide) (by decide)
 obtain ⟨k, hk⟩ : ∃ k, k = (if 64 < key.length then sha key else key) := ⟨_, rfl⟩
 have hkl : k.length ≤ 64 := by
  rw [hk]; split
  · rw [sha_len]; omega
  · omega
 obtain ⟨z, hz⟩ : ∃ z, z = 64 - k.length := ⟨_, rfl⟩
 obtain ⟨k2, hk2⟩ : ∃ k2, k2 = k ++ List.replicate z 0 := ⟨_, rfl⟩
 have hk2l : k2.length = 64 := by rw [hk2]; simp; omega
 have hk2k : k2 = keyL key := by rw [hk2, keyL, hz, hk]
 have c3 : ¬ (9223372036854775807 < k.length + z) := by omega
 have c4 : (64 : Int) - k.length = z := by omega
 have c5 : IntKind.i64.wrap (z : Int) = z := by rw [IntKind.wrap_i64]; omega
 have hcat : k ++ List.replicate z 0 = k2 := hk2.symm
 have hR0 := fun w => refZeros z (by omega) w
 have HR0 := Lib.hid hR0
 obtain ⟨xi, hxi⟩ : ∃ x, x = xorL k2 (List.replicate 64 54) := ⟨_, rfl⟩
 obtain ⟨xo, hxo⟩ : ∃ x, x = xorL k2 (List.replicate 64 92) := ⟨_, rfl⟩
 have hxil : xi.length = 64 := by rw [hxi]; exact xorL_length64 _ _ hk2l (by simp)
 have hxol : xo.length = 64 := by rw [hxo]; exact xorL_length64 _ _ hk2l (by simp)
 have hXI : ∀ (j : Nat) (h : j < 64), (xorArr xi j).set j (k2[j]'(by omega) ^^^ 54) = xorArr xi (j+1) := by
  intro j h
  rw [← xorArr_set xi j (by omega)]
  congr 1
  simp only [hxi, xorL, List.getElem_zipWith, List.getElem_replicate]
 have hXO : ∀ (j : Nat) (h : j < 64), (xorArr xo j).set j (k2[j]'(by omega) ^^^ 92) = xorArr xo (j+1) := by
  intro j h
  rw [← xorArr_set xo j (by omega)]
  congr 1
  simp only [hxo, xorL, List.getElem_zipWith, List.getElem_replicate]
 have hXL : (∀ j, j ≤ 64 → (xorArr xi j).length = 64) ∧ (∀ j, j ≤ 64 → (xorArr xo j).length = 64) :=
  ⟨fun j h => by rw [xorArr_length _ _ (by omega)]; exact hxil, fun j h => by rw [xorArr_length _ _ (by omega)]; exact hxol⟩
 have hXE : xorArr xi 64 = xi ∧ xorArr xo 64 = xo := by
  constructor
  · simp only [xorArr, hxil]; rw [List.take_of_length_le (by omega)]; simp
  · simp only [xorArr, hxol]; rw [List.take_of_length_le (by omega)]; simp
 have hXI0 : xorArr xi 0 = List.replicate 64 0 := by simp [xorArr, hxil]
 have hXO0 : xorArr xo 0 = List.replicate 64 0 := by simp [xorArr, hxol]
 obtain ⟨si, hsi⟩ : ∃ x, x = sha (xi ++ b) := ⟨_, rfl⟩
 have hsil : si.length = 32 := by rw [hsi]; exact sha_len _
 obtain ⟨so, hso⟩ : ∃ x, x = sha (xo ++ si) := ⟨_, rfl⟩
 have hfin : macL key b = so := by rw [macL, ← hk2k, ← hxi, ← hxo, ← hsi, ← hso]
 have hS1 := fun w => refSum (xi ++ b) (by simp; omega) w
 have hS2 := fun w => refSum (xo ++ si) (by simp; omega) w
 rw [← hsi] at hS1
 rw [← hso] at hS2
 have c1 : ¬ (9223372036854775807 < 64 + b.length) := by omega
 have c2 : ¬ (9223372036854775807 < xo.length + si.length) := by omega
 have HS1 := Lib.hid hS1
 have HS2 := Lib.hid hS2
 have HF := Lib.hid hfin
 have HXI := Lib.hid hXI
 have HXO := Lib.hid hXO
 have HXL := Lib.hid hXL
 have HXE := Lib.hid hXE
 have HXI0 := Lib.hid hXI0
 have HXO0 := Lib.hid hXO0
 clear hz hk2 hk2k hR0 hxi hxo hsi hso hfin hS1 hS2 hXI hXO hXL hXE hXI0 hXO0
 by_cases h64 : 64 < key.length
 · have h64' : (64 : Int) < key.length := by omega
   have hks : k = sha key := by rw [hk, if_pos h64]
   have hSK := fun w => refSum key (by omega) w
   rw [← hks] at hSK
   have HSK := Lib.hid hSK
   clear hk hks hSK
   go_enter Tryz.func129, Tryz.ntmps129
   go_wp2_with (first
    | (go_at_call 158; refine (HSK.out _).mono ?_; rintro e w1 ⟨rfl, hp1⟩)
    | (go_at_call 77; refine (HR0.out _).mono ?_; rintro e w2 ⟨rfl, hp2⟩; have hpu : Pu w w2 := hp1.trans hp2))
   go_region
   · skip
     generalize hW : (World.alloc (World.alloc w2 (.cells (madeCells #[Value.int .u8 0] 64) 5)) (.cells (madeCells #[Value.int .u8 0] 64) 5)).drew = w3
     have hA : Row w3 w2.heap.size 5 (cells (List.replicate 64 0)) := by rw [← hW]; exact ((Row.newAt w2 w2.heap.size _ _ rfl (by kernel_rfl)).alloc _).drew
     have hB : Row w3 (w2.heap.size + 1) 5 (cells (List.replicate 64 0)) := by rw [← hW]; exact (Row.newAt _ (w2.heap.size + 1) _ _ (by simp) (by kernel_rfl)).drew
     have hpu3 : Pu w w3 := by rw [← hW]; exact ((hpu.alloc _).alloc _).drew
     have hs2 := hpu.size
     clear hW hpu hp1 hp2
     go_wp2_with fail
     go_loopw [7] (fun v wr => ∃ j : Nat, j ≤ 64 ∧ v = .int .i64 (j : Int) ∧ Row wr (w2.heap.size) 5 (cells (xorArr xi j)) ∧ Row wr (w2.heap.size + 1) 5 (cells (xorArr xo j)) ∧ Below w.heap.size w wr) (fun v _ => 64 - (intOf v).toNat)
     case atStart => exact ⟨0, by omega, rfl, by rw [HXI0.out]; first | exact hA | exact hB, by rw [HXO0.out]; first | exact hB | exact hA, hpu3⟩
     case round =>
      clear hA hB hpu3
      obtain ⟨j, hj, rfl, hin, hout, hbel⟩ := hrel
      by_cases hlt : j < 64
      · obtain ⟨x, hx⟩ : ∃ x, k2[j]'(by omega) = x := ⟨_, rfl⟩
        obtain ⟨vi, hvi⟩ : ∃ v, v = x ^^^ (54 : UInt8) := ⟨_, rfl⟩
        obtain ⟨vo, hvo⟩ : ∃ v, v = x ^^^ (92 : UInt8) := ⟨_, rfl⟩
        have hb1 : Go.bits .xor .u8 (x.toNat : Int) 54 = (vi.toNat : Int) := by rw [hvi]; exact xor_val x 54
        have hb2 : Go.bits .xor .u8 (x.toNat : Int) 92 = (vo.toNat : Int) := by rw [hvo]; exact xor_val x 92
        have hsi := HXI.out j hlt
        have hso := HXO.out j hlt
        rw [hx, ← hvi] at hsi
        rw [hx, ← hvo] at hso
        have HSI := Lib.hid hsi
        have HSO := Lib.hid hso
        have hli := HXL.out.1 j (by omega)
        have hlo := HXL.out.2 j (by omega)
        have hj0 : (0 : Int) ≤ j := by omega
        have hjk : (j : Int) < k2.length := by omega
        have hj64 : (j : Int) < 64 := by omega
        clear hvi hvo hsi hso
        go_wp2_with fail
        apply region_writer (g := (w2.heap.size)) (n := 15) (hn := by kernel_rfl) (hlast := rfl) (hU := by kernel_rfl) (Φ1 := (Is _ :: Is _ :: Is _ :: Is _ :: Is _ :: Is _ :: Is _ :: Is _ :: Is _ :: Is _ :: Is _ :: Is _ :: Is _ :: [])) (Φm := IsAt undef (w2.heap.size) 5 (cells (xorArr xi (j+1)))) (Φ2 := (Is _ :: [])) (hm := by kernel_rfl) (hE := by kernel_rfl) (hD := by kernel_rfl) (hsize := by kernel_rfl)
        case hop =>
         refine ⟨?_, ?_, ?_, ?_, ?_, ?_, ?_, ?_, ?_, ?_, ?_, ?_, ?_, ?_, ?_, trivial⟩
         · intro a' w' hs hp he
           have hp : But (w2.heap.size) _ w' := hp
           have e5 := hs 5 (by kernel_rfl)
           try simp [Is, Region.binds] at he
           exact op_v
         · intro a' w' hs hp he
           have hp : But (w2.heap.size) _ w' := hp
           have e7 := hs 7 (by kernel_rfl)
           try simp [Is, Region.binds] at he
           exact op_v
         · intro a' w' hs hp he
           have hp : But (w2.heap.size) _ w' := hp
           have e6 := hs 6 (by kernel_rfl)
           try simp [Is, Region.binds] at he
           exact op_v
         · intro a' w' hs hp he
           have hp : But (w2.heap.size) _ w' := hp
           have e7 := hs 7 (by kernel_rfl)
           try simp [Is, Region.binds] at he
           exact op_v
         · intro a' w' hs hp he
           have hp : But (w2.heap.size) _ w' := hp
           have e0 := hs 0 (by kernel_rfl)
           try simp [Is, Region.binds] at he
           exact op_v
         · intro a' w' hs hp he
           have hp : But (w2.heap.size) _ w' := hp
           have e7 := hs 7 (by kernel_rfl)
           try simp [Is, Region.binds] at he
           exact op_v
         · intro a' w' hs hp he
           have hp : But (w2.heap.size) _ w' := hp
           try simp [Is, Region.binds] at he
           exact op_v
         · intro a' w' hs hp he
           have hp : But (w2.heap.size) _ w' := hp
           try simp [Is, Region.binds] at he
           exact op_v
         · intro a' w' hs hp he
           have hp : But (w2.heap.size) _ w' := hp
           have e0 := hs 0 (by kernel_rfl)
           try simp [Is, Region.binds] at he
           exact op_v
         · intro a' w' hs hp he
           have hp : But (w2.heap.size) _ w' := hp
           have e7 := hs 7 (by kernel_rfl)
           try simp [Is, Region.binds] at he
           exact op_v
         · intro a' w' hs hp he
           have hp : But (w2.heap.size) _ w' := hp
           try simp [Is, Region.binds] at he
           exact op_v
         · intro a' w' hs hp he
           have hp : But (w2.heap.size) _ w' := hp
           try simp [Is, Region.binds] at he
           exact op_v
         · intro a' w' hs hp he
           have hp : But (w2.heap.size) _ w' := hp
           try simp [Is, Region.binds] at he
           exact op_v
         · intro a' w' hs hp he
           have hp : Pu _ w' := hp
           try simp [Is, Region.binds] at he
           have hr := hin.pu hp; have hc := hr.cell' j (by rw [cells_length]; omega); rw [cells_get _ _ (by omega)] at hc; have hf := hr.frozen j (by rw [cells_length]; omega); refine op_doneB rfl (wanted_none rfl) (by first | (go_simp; done) | (go_simp; rfl)) ⟨rfl, ?_⟩ (But.set _ _ _); have hst := hr.set j (.int .u8 (vi.toNat : Int)); rw [cells_set, HSI.out] at hst; exact hst
         · intro a' w' hs hp he
           have hp : But (w2.heap.size) _ w' := hp
           try simp [Is, Region.binds] at he
           exact op_v
        case hend =>
         intro a' w' hdef hsz hs hp hall
         obtain ⟨r0, r1, r2, r3, r4, r5, r6, r7, r8, r9, r10, r11, r12, r13, r14, -⟩ := hall
         obtain ⟨rv13, row13⟩ := r13
         have hA := agree_done (agree_step (agree_step (agree_step (agree_step (agree_step (agree_step (agree_step (agree_step (agree_step (agree_step (agree_step (agree_step (agree_step (agree_step (agree_initL [25, 26, 27, 28, 29, 30, 31, 32, 33, 34, 35, 36, 37, 38] hsz hs (by kernel_rfl)) r0) r1) r2) r3) r4) r5) r6) r7) r8) r9) r10) r11) r12) r14)
         have ha := act_of hA hdef
         rw [ha]
         clear ha hA hs hsz hdef r0 r1 r2 r3 r4 r5 r6 r7 r8 r9 r10 r11 r12 r14 rv13
         (try simp only [List.setIfInBounds_toArray])
         (try dsimp only [List.set_cons_zero, List.set_cons_succ])
         (try simp only [Exit.then])
         have ho := hp.row hout (by omega); have hc := ho.cell' j (by rw [cells_length]; omega); rw [cells_get _ _ (by omega)] at hc; have hf := ho.frozen j (by rw [cells_length]; omega)
         refine op_done rfl (wanted_none rfl) (by first | (go_simp; done) | (go_simp; rfl)) ?_
         (try simp only [Exit.inBlock, Exit.then])
         go_wp2_with fail
         go_roundw
         case rel =>
          have hst := ho.set j (.int .u8 (vo.toNat : Int))
          rw [cells_set, HSO.out] at hst
          exact ⟨j + 1, by omega, by go_num, row13.setOther _ _ (by simp), hst, (But.below hbel hp (by omega) hbel.size).setCell (by simp; omega) _⟩
         case measure => simp [intOf]; omega
      · obtain rfl : j = 64 := by omega
        rw [HXE.out.1] at hin
        rw [HXE.out.2] at hout
        go_wp2_with fail
        apply region_pu (Φs := (Is _ :: Is _ :: Is _ :: Is _ :: Is _ :: Is _ :: Is _ :: Is _ :: Is _ :: Is _ :: [])) (hm := by kernel_rfl) (hE := by kernel_rfl) (hD := by kernel_rfl) (hsize := by kernel_rfl)
        case hop =>
         refine ⟨?_, ?_, ?_, ?_, ?_, ?_, ?_, ?_, ?_, ?_, trivial⟩
         · intro a' w' hs hp he
           have e6 := hs 6 (by kernel_rfl)
           try simp [Is, Region.binds] at he
           exact op_v
         · intro a' w' hs hp he
           try simp [Is, Region.binds] at he
           have hcv := Row.conv (P := Tryz.prog) (cap := 64) (n := 64) (l := xo) 51 9 (hout.pu hp) hxol.symm Tryz.underlying51 Tryz.underlying5 Tryz.underlying9; exact op_val rfl (wanted_none rfl) (by first | (go_simp; done) | (go_simp; rfl)) rfl (Pu.refl _)
         · intro a' w' hs hp he
           have e5 := hs 5 (by kernel_rfl)
           try simp [Is, Region.binds] at he
           exact op_v
         · intro a' w' hs hp he
           try simp [Is, Region.binds] at he
           have hcv := Row.conv (P := Tryz.prog) (cap := 64) (n := 64) (l := xi) 51 9 (hin.pu hp) hxil.symm Tryz.underlying51 Tryz.underlying5 Tryz.underlying9; exact op_val rfl (wanted_none rfl) (by first | (go_simp; done) | (go_simp; rfl)) rfl (Pu.refl _)
         · intro a' w' hs hp he
           have e1 := hs 1 (by kernel_rfl)
           try simp [Is, Region.binds] at he
           exact op_v
         · intro a' w' hs hp he
           try simp [Is, Region.binds] at he
           exact op_v
         · intro a' w' hs hp he
           try simp [Is, Region.binds] at he
           exact op_callP (HS1.out _) rfl (wanted_none rfl) (by first | (go_simp; done) | (go_simp; rfl)) (fun _ => rfl)
         · intro a' w' hs hp he
           try simp [Is, Region.binds] at he
           exact op_v
         · intro a' w' hs hp he
           try simp [Is, Region.binds] at he
           exact op_callP (HS2.out _) rfl (wanted_none rfl) (by first | (go_simp; done) | (go_simp; rfl)) (fun _ => rfl)
         · intro a' w' hs hp he
           try simp [Is, Region.binds] at he
           exact op_v
        case hend =>
         intro a' w' hdef hsz hs hp hall
         obtain ⟨r0, r1, r2, r3, r4, r5, r6, r7, r8, r9, -⟩ := hall
         have hA := agree_done (agree_step (agree_step (agree_step (agree_step (agree_step (agree_step (agree_step (agree_step (agree_step (agree_step (agree_init [39, 40, 41, 42, 43, 44, 45, 46, 47, 4] hsz hs (by kernel_rfl)) r0) r1) r2) r3) r4) r5) r6) r7) r8) r9)
         have ha := act_of hA hdef
         rw [ha]
         clear ha hA hs hsz hdef r0 r1 r2 r3 r4 r5 r6 r7 r8 r9 
         (try simp only [List.setIfInBounds_toArray])
         (try dsimp only [List.set_cons_zero, List.set_cons_succ])
         (try simp only [Exit.then])
         go_wp2_with fail
         go_ret
         exact ⟨by rw [HF.out]; rfl, hbel.trans (Below.mono hp hbel.size)⟩
   · skip
     generalize hW : (World.alloc (World.alloc w2 (.cells (madeCells #[Value.int .u8 0] 64) 5)) (.cells (madeCells #[Value.int .u8 0] 64) 5)).drew = w3
     have hA : Row w3 w2.heap.size 5 (cells (List.replicate 64 0)) := by rw [← hW]; exact ((Row.newAt w2 w2.heap.size _ _ rfl (by kernel_rfl)).alloc _).drew
     have hB : Row w3 (w2.heap.size + 1) 5 (cells (List.replicate 64 0)) := by rw [← hW]; exact (Row.newAt _ (w2.heap.size + 1) _ _ (by simp) (by kernel_rfl)).drew
     have hpu3 : Pu w w3 := by rw [← hW]; exact ((hpu.alloc _).alloc _).drew
     have hs2 := hpu.size
     clear hW hpu hp1 hp2
     go_wp2_with fail
     go_loopw [7] (fun v wr => ∃ j : Nat, j ≤ 64 ∧ v = .int .i64 (j : Int) ∧ Row wr (w2.heap.size + 1) 5 (cells (xorArr xi j)) ∧ Row wr (w2.heap.size) 5 (cells (xorArr xo j)) ∧ Below w.heap.size w wr) (fun v _ => 64 - (intOf v).toNat)
     case atStart => exact ⟨0, by omega, rfl, by rw [HXI0.out]; first | exact hA | exact hB, by rw [HXO0.out]; first | exact hB | exact hA, hpu3⟩
     case round =>
      clear hA hB hpu3
      obtain ⟨j, hj, rfl, hin, hout, hbel⟩ := hrel
      by_cases hlt : j < 64
      · obtain ⟨x, hx⟩ : ∃ x, k2[j]'(by omega) = x := ⟨_, rfl⟩
        obtain ⟨vi, hvi⟩ : ∃ v, v = x ^^^ (54 : UInt8) := ⟨_, rfl⟩
        obtain ⟨vo, hvo⟩ : ∃ v, v = x ^^^ (92 : UInt8) := ⟨_, rfl⟩
        have hb1 : Go.bits .xor .u8 (x.toNat : Int) 54 = (vi.toNat : Int) := by rw [hvi]; exact xor_val x 54
        have hb2 : Go.bits .xor .u8 (x.toNat : Int) 92 = (vo.toNat : Int) := by rw [hvo]; exact xor_val x 92
        have hsi := HXI.out j hlt
        have hso := HXO.out j hlt
        rw [hx, ← hvi] at hsi
        rw [hx, ← hvo] at hso
        have HSI := Lib.hid hsi
        have HSO := Lib.hid hso
        have hli := HXL.out.1 j (by omega)
        have hlo := HXL.out.2 j (by omega)
        have hj0 : (0 : Int) ≤ j := by omega
        have hjk : (j : Int) < k2.length := by omega
        have hj64 : (j : Int) < 64 := by omega
        clear hvi hvo hsi hso
        go_wp2_with fail
        apply region_writer (g := (w2.heap.size + 1)) (n := 15) (hn := by kernel_rfl) (hlast := rfl) (hU := by kernel_rfl) (Φ1 := (Is _ :: Is _ :: Is _ :: Is _ :: Is _ :: Is _ :: Is _ :: Is _ :: Is _ :: Is _ :: Is _ :: Is _ :: Is _ :: [])) (Φm := IsAt undef (w2.heap.size + 1) 5 (cells (xorArr xi (j+1)))) (Φ2 := (Is _ :: [])) (hm := by kernel_rfl) (hE := by kernel_rfl) (hD := by kernel_rfl) (hsize := by kernel_rfl)
        case hop =>
         refine ⟨?_, ?_, ?_, ?_, ?_, ?_, ?_, ?_, ?_, ?_, ?_, ?_, ?_, ?_, ?_, trivial⟩
         · intro a' w' hs hp he
           have hp : But (w2.heap.size + 1) _ w' := hp
           have e5 := hs 5 (by kernel_rfl)
           try simp [Is, Region.binds] at he
           exact op_v
         · intro a' w' hs hp he
           have hp : But (w2.heap.size + 1) _ w' := hp
           have e7 := hs 7 (by kernel_rfl)
           try simp [Is, Region.binds] at he
           exact op_v
         · intro a' w' hs hp he
           have hp : But (w2.heap.size + 1) _ w' := hp
           have e6 := hs 6 (by kernel_rfl)
           try simp [Is, Region.binds] at he
           exact op_v
         · intro a' w' hs hp he
           have hp : But (w2.heap.size + 1) _ w' := hp
           have e7 := hs 7 (by kernel_rfl)
           try simp [Is, Region.binds] at he
           exact op_v
         · intro a' w' hs hp he
           have hp : But (w2.heap.size + 1) _ w' := hp
           have e0 := hs 0 (by kernel_rfl)
           try simp [Is, Region.binds] at he
           exact op_v
         · intro a' w' hs hp he
           have hp : But (w2.heap.size + 1) _ w' := hp
           have e7 := hs 7 (by kernel_rfl)
           try simp [Is, Region.binds] at he
           exact op_v
         · intro a' w' hs hp he
           have hp : But (w2.heap.size + 1) _ w' := hp
           try simp [Is, Region.binds] at he
           exact op_v
         · intro a' w' hs hp he
           have hp : But (w2.heap.size + 1) _ w' := hp
           try simp [Is, Region.binds] at he
           exact op_v
         · intro a' w' hs hp he
           have hp : But (w2.heap.size + 1) _ w' := hp
           have e0 := hs 0 (by kernel_rfl)
           try simp [Is, Region.binds] at he
           exact op_v
         · intro a' w' hs hp he
           have hp : But (w2.heap.size + 1) _ w' := hp
           have e7 := hs 7 (by kernel_rfl)
           try simp [Is, Region.binds] at he
           exact op_v
         · intro a' w' hs hp he
           have hp : But (w2.heap.size + 1) _ w' := hp
           try simp [Is, Region.binds] at he
           exact op_v
         · intro a' w' hs hp he
           have hp : But (w2.heap.size + 1) _ w' := hp
           try simp [Is, Region.binds] at he
           exact op_v
         · intro a' w' hs hp he
           have hp : But (w2.heap.size + 1) _ w' := hp
           try simp [Is, Region.binds] at he
           exact op_v
         · intro a' w' hs hp he
           have hp : Pu _ w' := hp
           try simp [Is, Region.binds] at he
           have hr := hin.pu hp; have hc := hr.cell' j (by rw [cells_length]; omega); rw [cells_get _ _ (by omega)] at hc; have hf := hr.frozen j (by rw [cells_length]; omega); refine op_doneB rfl (wanted_none rfl) (by first | (go_simp; done) | (go_simp; rfl)) ⟨rfl, ?_⟩ (But.set _ _ _); have hst := hr.set j (.int .u8 (vi.toNat : Int)); rw [cells_set, HSI.out] at hst; exact hst
         · intro a' w' hs hp he
           have hp : But (w2.heap.size + 1) _ w' := hp
           try simp [Is, Region.binds] at he
           exact op_v
        case hend =>
         intro a' w' hdef hsz hs hp hall
         obtain ⟨r0, r1, r2, r3, r4, r5, r6, r7, r8, r9, r10, r11, r12, r13, r14, -⟩ := hall
         obtain ⟨rv13, row13⟩ := r13
         have hA := agree_done (agree_step (agree_step (agree_step (agree_step (agree_step (agree_step (agree_step (agree_step (agree_step (agree_step (agree_step (agree_step (agree_step (agree_step (agree_initL [25, 26, 27, 28, 29, 30, 31, 32, 33, 34, 35, 36, 37, 38] hsz hs (by kernel_rfl)) r0) r1) r2) r3) r4) r5) r6) r7) r8) r9) r10) r11) r12) r14)
         have ha := act_of hA hdef
         rw [ha]
         clear ha hA hs hsz hdef r0 r1 r2 r3 r4 r5 r6 r7 r8 r9 r10 r11 r12 r14 rv13
         (try simp only [List.setIfInBounds_toArray])
         (try dsimp only [List.set_cons_zero, List.set_cons_succ])
         (try simp only [Exit.then])
         have ho := hp.row hout (by omega); have hc := ho.cell' j (by rw [cells_length]; omega); rw [cells_get _ _ (by omega)] at hc; have hf := ho.frozen j (by rw [cells_length]; omega)
         refine op_done rfl (wanted_none rfl) (by first | (go_simp; done) | (go_simp; rfl)) ?_
         (try simp only [Exit.inBlock, Exit.then])
         go_wp2_with fail
         go_roundw
         case rel =>
          have hst := ho.set j (.int .u8 (vo.toNat : Int))
          rw [cells_set, HSO.out] at hst
          exact ⟨j + 1, by omega, by go_num, row13.setOther _ _ (by simp), hst, (But.below hbel hp (by omega) hbel.size).setCell (by simp; omega) _⟩
         case measure => simp [intOf]; omega
      · obtain rfl : j = 64 := by omega
        rw [HXE.out.1] at hin
        rw [HXE.out.2] at hout
        go_wp2_with fail
        apply region_pu (Φs := (Is _ :: Is _ :: Is _ :: Is _ :: Is _ :: Is _ :: Is _ :: Is _ :: Is _ :: Is _ :: [])) (hm := by kernel_rfl) (hE := by kernel_rfl) (hD := by kernel_rfl) (hsize := by kernel_rfl)
        case hop =>
         refine ⟨?_, ?_, ?_, ?_, ?_, ?_, ?_, ?_, ?_, ?_, trivial⟩
         · intro a' w' hs hp he
           have e6 := hs 6 (by kernel_rfl)
           try simp [Is, Region.binds] at he
           exact op_v
         · intro a' w' hs hp he
           try simp [Is, Region.binds] at he
           have hcv := Row.conv (P := Tryz.prog) (cap := 64) (n := 64) (l := xo) 51 9 (hout.pu hp) hxol.symm Tryz.underlying51 Tryz.underlying5 Tryz.underlying9; exact op_val rfl (wanted_none rfl) (by first | (go_simp; done) | (go_simp; rfl)) rfl (Pu.refl _)
         · intro a' w' hs hp he
           have e5 := hs 5 (by kernel_rfl)
           try simp [Is, Region.binds] at he
           exact op_v
         · intro a' w' hs hp he
           try simp [Is, Region.binds] at he
           have hcv := Row.conv (P := Tryz.prog) (cap := 64) (n := 64) (l := xi) 51 9 (hin.pu hp) hxil.symm Tryz.underlying51 Tryz.underlying5 Tryz.underlying9; exact op_val rfl (wanted_none rfl) (by first | (go_simp; done) | (go_simp; rfl)) rfl (Pu.refl _)
         · intro a' w' hs hp he
           have e1 := hs 1 (by kernel_rfl)
           try simp [Is, Region.binds] at he
           exact op_v
         · intro a' w' hs hp he
           try simp [Is, Region.binds] at he
           exact op_v
         · intro a' w' hs hp he
           try simp [Is, Region.binds] at he
           exact op_callP (HS1.out _) rfl (wanted_none rfl) (by first | (go_simp; done) | (go_simp; rfl)) (fun _ => rfl)
         · intro a' w' hs hp he
           try simp [Is, Region.binds] at he
           exact op_v
         · intro a' w' hs hp he
           try simp [Is, Region.binds] at he
           exact op_callP (HS2.out _) rfl (wanted_none rfl) (by first | (go_simp; done) | (go_simp; rfl)) (fun _ => rfl)
         · intro a' w' hs hp he
           try simp [Is, Region.binds] at he
           exact op_v
        case hend =>
         intro a' w' hdef hsz hs hp hall
         obtain ⟨r0, r1, r2, r3, r4, r5, r6, r7, r8, r9, -⟩ := hall
         have hA := agree_done (agree_step (agree_step (agree_step (agree_step (agree_step (agree_step (agree_step (agree_step (agree_step (agree_step (agree_init [39, 40, 41, 42, 43, 44, 45, 46, 47, 4] hsz hs (by kernel_rfl)) r0) r1) r2) r3) r4) r5) r6) r7) r8) r9)
         have ha := act_of hA hdef
         rw [ha]
         clear ha hA hs hsz hdef r0 r1 r2 r3 r4 r5 r6 r7 r8 r9 
         (try simp only [List.setIfInBounds_toArray])
         (try dsimp only [List.set_cons_zero, List.set_cons_succ])
         (try simp only [Exit.then])
         go_wp2_with fail
         go_ret
         exact ⟨by rw [HF.out]; rfl, hbel.trans (Below.mono hp hbel.size)⟩
 · have h64' : decide ((64 : Int) < key.length) = false := by simp; omega
   obtain rfl : k = key := by rw [hk, if_neg h64]
   clear hk
   go_enter Tryz.func129, Tryz.ntmps129
   go_wp2_with (go_at_call 77; refine (HR0.out _).mono ?_; rintro e w2 ⟨rfl, hp2⟩; have hpu : Pu w w2 := hp2)
   have hp1 := hp2
   go_region
   · skip
     generalize hW : (World.alloc (World.alloc w2 (.cells (madeCells #[Value.int .u8 0] 64) 5)) (.cells (madeCells #[Value.int .u8 0] 64) 5)).drew = w3
     have hA : Row w3 w2.heap.size 5 (cells (List.replicate 64 0)) := by rw [← hW]; exact ((Row.newAt w2 w2.heap.size _ _ rfl (by kernel_rfl)).alloc _).drew
     have hB : Row w3 (w2.heap.size + 1) 5 (cells (List.replicate 64 0)) := by rw [← hW]; exact (Row.newAt _ (w2.heap.size + 1) _ _ (by simp) (by kernel_rfl)).drew
     have hpu3 : Pu w w3 := by rw [← hW]; exact ((hpu.alloc _).alloc _).drew
     have hs2 := hpu.size
     clear hW hpu hp1 hp2
     go_wp2_with fail
     go_loopw [7] (fun v wr => ∃ j : Nat, j ≤ 64 ∧ v = .int .i64 (j : Int) ∧ Row wr (w2.heap.size) 5 (cells (xorArr xi j)) ∧ Row wr (w2.heap.size + 1) 5 (cells (xorArr xo j)) ∧ Below w.heap.size w wr) (fun v _ => 64 - (intOf v).toNat)
     case atStart => exact ⟨0, by omega, rfl, by rw [HXI0.out]; first | exact hA | exact hB, by rw [HXO0.out]; first | exact hB | exact hA, hpu3⟩
     case round =>
      clear hA hB hpu3
      obtain ⟨j, hj, rfl, hin, hout, hbel⟩ := hrel
      by_cases hlt : j < 64
      · obtain ⟨x, hx⟩ : ∃ x, k2[j]'(by omega) = x := ⟨_, rfl⟩
        obtain ⟨vi, hvi⟩ : ∃ v, v = x ^^^ (54 : UInt8) := ⟨_, rfl⟩
        obtain ⟨vo, hvo⟩ : ∃ v, v = x ^^^ (92 : UInt8) := ⟨_, rfl⟩
        have hb1 : Go.bits .xor .u8 (x.toNat : Int) 54 = (vi.toNat : Int) := by rw [hvi]; exact xor_val x 54
        have hb2 : Go.bits .xor .u8 (x.toNat : Int) 92 = (vo.toNat : Int) := by rw [hvo]; exact xor_val x 92
        have hsi := HXI.out j hlt
        have hso := HXO.out j hlt
        rw [hx, ← hvi] at hsi
        rw [hx, ← hvo] at hso
        have HSI := Lib.hid hsi
        have HSO := Lib.hid hso
        have hli := HXL.out.1 j (by omega)
        have hlo := HXL.out.2 j (by omega)
        have hj0 : (0 : Int) ≤ j := by omega
        have hjk : (j : Int) < k2.length := by omega
        have hj64 : (j : Int) < 64 := by omega
        clear hvi hvo hsi hso
        go_wp2_with fail
        apply region_writer (g := (w2.heap.size)) (n := 15) (hn := by kernel_rfl) (hlast := rfl) (hU := by kernel_rfl) (Φ1 := (Is _ :: Is _ :: Is _ :: Is _ :: Is _ :: Is _ :: Is _ :: Is _ :: Is _ :: Is _ :: Is _ :: Is _ :: Is _ :: [])) (Φm := IsAt undef (w2.heap.size) 5 (cells (xorArr xi (j+1)))) (Φ2 := (Is _ :: [])) (hm := by kernel_rfl) (hE := by kernel_rfl) (hD := by kernel_rfl) (hsize := by kernel_rfl)
        case hop =>
         refine ⟨?_, ?_, ?_, ?_, ?_, ?_, ?_, ?_, ?_, ?_, ?_, ?_, ?_, ?_, ?_, trivial⟩
         · intro a' w' hs hp he
           have hp : But (w2.heap.size) _ w' := hp
           have e5 := hs 5 (by kernel_rfl)
           try simp [Is, Region.binds] at he
           exact op_v
         · intro a' w' hs hp he
           have hp : But (w2.heap.size) _ w' := hp
           have e7 := hs 7 (by kernel_rfl)
           try simp [Is, Region.binds] at he
           exact op_v
         · intro a' w' hs hp he
           have hp : But (w2.heap.size) _ w' := hp
           have e6 := hs 6 (by kernel_rfl)
           try simp [Is, Region.binds] at he
           exact op_v
         · intro a' w' hs hp he
           have hp : But (w2.heap.size) _ w' := hp
           have e7 := hs 7 (by kernel_rfl)
           try simp [Is, Region.binds] at he
           exact op_v
         · intro a' w' hs hp he
           have hp : But (w2.heap.size) _ w' := hp
           have e0 := hs 0 (by kernel_rfl)
           try simp [Is, Region.binds] at he
           exact op_v
         · intro a' w' hs hp he
           have hp : But (w2.heap.size) _ w' := hp
           have e7 := hs 7 (by kernel_rfl)
           try simp [Is, Region.binds] at he
           exact op_v
         · intro a' w' hs hp he
           have hp : But (w2.heap.size) _ w' := hp
           try simp [Is, Region.binds] at he
           exact op_v
         · intro a' w' hs hp he
           have hp : But (w2.heap.size) _ w' := hp
           try simp [Is, Region.binds] at he
           exact op_v
         · intro a' w' hs hp he
           have hp : But (w2.heap.size) _ w' := hp
           have e0 := hs 0 (by kernel_rfl)
           try simp [Is, Region.binds] at he
           exact op_v
         · intro a' w' hs hp he
           have hp : But (w2.heap.size) _ w' := hp
           have e7 := hs 7 (by kernel_rfl)
           try simp [Is, Region.binds] at he
           exact op_v
         · intro a' w' hs hp he
           have hp : But (w2.heap.size) _ w' := hp
           try simp [Is, Region.binds] at he
           exact op_v
         · intro a' w' hs hp he
           have hp : But (w2.heap.size) _ w' := hp
           try simp [Is, Region.binds] at he
           exact op_v
         · intro a' w' hs hp he
           have hp : But (w2.heap.size) _ w' := hp
           try simp [Is, Region.binds] at he
           exact op_v
         · intro a' w' hs hp he
           have hp : Pu _ w' := hp
           try simp [Is, Region.binds] at he
           have hr := hin.pu hp; have hc := hr.cell' j (by rw [cells_length]; omega); rw [cells_get _ _ (by omega)] at hc; have hf := hr.frozen j (by rw [cells_length]; omega); refine op_doneB rfl (wanted_none rfl) (by first | (go_simp; done) | (go_simp; rfl)) ⟨rfl, ?_⟩ (But.set _ _ _); have hst := hr.set j (.int .u8 (vi.toNat : Int)); rw [cells_set, HSI.out] at hst; exact hst
         · intro a' w' hs hp he
           have hp : But (w2.heap.size) _ w' := hp
           try simp [Is, Region.binds] at he
           exact op_v
        case hend =>
         intro a' w' hdef hsz hs hp hall
         obtain ⟨r0, r1, r2, r3, r4, r5, r6, r7, r8, r9, r10, r11, r12, r13, r14, -⟩ := hall
         obtain ⟨rv13, row13⟩ := r13
         have hA := agree_done (agree_step (agree_step (agree_step (agree_step (agree_step (agree_step (agree_step (agree_step (agree_step (agree_step (agree_step (agree_step (agree_step (agree_step (agree_initL [25, 26, 27, 28, 29, 30, 31, 32, 33, 34, 35, 36, 37, 38] hsz hs (by kernel_rfl)) r0) r1) r2) r3) r4) r5) r6) r7) r8) r9) r10) r11) r12) r14)
         have ha := act_of hA hdef
         rw [ha]
         clear ha hA hs hsz hdef r0 r1 r2 r3 r4 r5 r6 r7 r8 r9 r10 r11 r12 r14 rv13
         (try simp only [List.setIfInBounds_toArray])
         (try dsimp only [List.set_cons_zero, List.set_cons_succ])
         (try simp only [Exit.then])
         have ho := hp.row hout (by omega); have hc := ho.cell' j (by rw [cells_length]; omega); rw [cells_get _ _ (by omega)] at hc; have hf := ho.frozen j (by rw [cells_length]; omega)
         refine op_done rfl (wanted_none rfl) (by first | (go_simp; done) | (go_simp; rfl)) ?_
         (try simp only [Exit.inBlock, Exit.then])
         go_wp2_with fail
         go_roundw
         case rel =>
          have hst := ho.set j (.int .u8 (vo.toNat : Int))
          rw [cells_set, HSO.out] at hst
          exact ⟨j + 1, by omega, by go_num, row13.setOther _ _ (by simp), hst, (But.below hbel hp (by omega) hbel.size).setCell (by simp; omega) _⟩
         case measure => simp [intOf]; omega
      · obtain rfl : j = 64 := by omega
        rw [HXE.out.1] at hin
        rw [HXE.out.2] at hout
        go_wp2_with fail
        apply region_pu (Φs := (Is _ :: Is _ :: Is _ :: Is _ :: Is _ :: Is _ :: Is _ :: Is _ :: Is _ :: Is _ :: [])) (hm := by kernel_rfl) (hE := by kernel_rfl) (hD := by kernel_rfl) (hsize := by kernel_rfl)
        case hop =>
         refine ⟨?_, ?_, ?_, ?_, ?_, ?_, ?_, ?_, ?_, ?_, trivial⟩
         · intro a' w' hs hp he
           have e6 := hs 6 (by kernel_rfl)
           try simp [Is, Region.binds] at he
           exact op_v
         · intro a' w' hs hp he
           try simp [Is, Region.binds] at he
           have hcv := Row.conv (P := Tryz.prog) (cap := 64) (n := 64) (l := xo) 51 9 (hout.pu hp) hxol.symm Tryz.underlying51 Tryz.underlying5 Tryz.underlying9; exact op_val rfl (wanted_none rfl) (by first | (go_simp; done) | (go_simp; rfl)) rfl (Pu.refl _)
         · intro a' w' hs hp he
           have e5 := hs 5 (by kernel_rfl)
           try simp [Is, Region.binds] at he
           exact op_v
         · intro a' w' hs hp he
           try simp [Is, Region.binds] at he
           have hcv := Row.conv (P := Tryz.prog) (cap := 64) (n := 64) (l := xi) 51 9 (hin.pu hp) hxil.symm Tryz.underlying51 Tryz.underlying5 Tryz.underlying9; exact op_val rfl (wanted_none rfl) (by first | (go_simp; done) | (go_simp; rfl)) rfl (Pu.refl _)
         · intro a' w' hs hp he
           have e1 := hs 1 (by kernel_rfl)
           try simp [Is, Region.binds] at he
           exact op_v
         · intro a' w' hs hp he
           try simp [Is, Region.binds] at he
           exact op_v
         · intro a' w' hs hp he
           try simp [Is, Region.binds] at he
           exact op_callP (HS1.out _) rfl (wanted_none rfl) (by first | (go_simp; done) | (go_simp; rfl)) (fun _ => rfl)
         · intro a' w' hs hp he
           try simp [Is, Region.binds] at he
           exact op_v
         · intro a' w' hs hp he
           try simp [Is, Region.binds] at he
           exact op_callP (HS2.out _) rfl (wanted_none rfl) (by first | (go_simp; done) | (go_simp; rfl)) (fun _ => rfl)
         · intro a' w' hs hp he
           try simp [Is, Region.binds] at he
           exact op_v
        case hend =>
         intro a' w' hdef hsz hs hp hall
         obtain ⟨r0, r1, r2, r3, r4, r5, r6, r7, r8, r9, -⟩ := hall
         have hA := agree_done (agree_step (agree_step (agree_step (agree_step (agree_step (agree_step (agree_step (agree_step (agree_step (agree_step (agree_init [39, 40, 41, 42, 43, 44, 45, 46, 47, 4] hsz hs (by kernel_rfl)) r0) r1) r2) r3) r4) r5) r6) r7) r8) r9)
         have ha := act_of hA hdef
         rw [ha]
         clear ha hA hs hsz hdef r0 r1 r2 r3 r4 r5 r6 r7 r8 r9 
         (try simp only [List.setIfInBounds_toArray])
         (try dsimp only [List.set_cons_zero, List.set_cons_succ])
         (try simp only [Exit.then])
         go_wp2_with fail
         go_ret
         exact ⟨by rw [HF.out]; rfl, hbel.trans (Below.mono hp hbel.size)⟩
   · skip
     generalize hW : (World.alloc (World.alloc w2 (.cells (madeCells #[Value.int .u8 0] 64) 5)) (.cells (madeCells #[Value.int .u8 0] 64) 5)).drew = w3
     have hA : Row w3 w2.heap.size 5 (cells (List.replicate 64 0)) := by rw [← hW]; exact ((Row.newAt w2 w2.heap.size _ _ rfl (by kernel_rfl)).alloc _).drew
     have hB : Row w3 (w2.heap.size + 1) 5 (cells (List.replicate 64 0)) := by rw [← hW]; exact (Row.newAt _ (w2.heap.size + 1) _ _ (by simp) (by kernel_rfl)).drew
     have hpu3 : Pu w w3 := by rw [← hW]; exact ((hpu.alloc _).alloc _).drew
     have hs2 := hpu.size
     clear hW hpu hp1 hp2
     go_wp2_with fail
     go_loopw [7] (fun v wr => ∃ j : Nat, j ≤ 64 ∧ v = .int .i64 (j : Int) ∧ Row wr (w2.heap.size + 1) 5 (cells (xorArr xi j)) ∧ Row wr (w2.heap.size) 5 (cells (xorArr xo j)) ∧ Below w.heap.size w wr) (fun v _ => 64 - (intOf v).toNat)
     case atStart => exact ⟨0, by omega, rfl, by rw [HXI0.out]; first | exact hA | exact hB, by rw [HXO0.out]; first | exact hB | exact hA, hpu3⟩
     case round =>
      clear hA hB hpu3
      obtain ⟨j, hj, rfl, hin, hout, hbel⟩ := hrel
      by_cases hlt : j < 64
      · obtain ⟨x, hx⟩ : ∃ x, k2[j]'(by omega) = x := ⟨_, rfl⟩
        obtain ⟨vi, hvi⟩ : ∃ v, v = x ^^^ (54 : UInt8) := ⟨_, rfl⟩
        obtain ⟨vo, hvo⟩ : ∃ v, v = x ^^^ (92 : UInt8) := ⟨_, rfl⟩
        have hb1 : Go.bits .xor .u8 (x.toNat : Int) 54 = (vi.toNat : Int) := by rw [hvi]; exact xor_val x 54
        have hb2 : Go.bits .xor .u8 (x.toNat : Int) 92 = (vo.toNat : Int) := by rw [hvo]; exact xor_val x 92
        have hsi := HXI.out j hlt
        have hso := HXO.out j hlt
        rw [hx, ← hvi] at hsi
        rw [hx, ← hvo] at hso
        have HSI := Lib.hid hsi
        have HSO := Lib.hid hso
        have hli := HXL.out.1 j (by omega)
        have hlo := HXL.out.2 j (by omega)
        have hj0 : (0 : Int) ≤ j := by omega
        have hjk : (j : Int) < k2.length := by omega
        have hj64 : (j : Int) < 64 := by omega
        clear hvi hvo hsi hso
        go_wp2_with fail
        apply region_writer (g := (w2.heap.size + 1)) (n := 15) (hn := by kernel_rfl) (hlast := rfl) (hU := by kernel_rfl) (Φ1 := (Is _ :: Is _ :: Is _ :: Is _ :: Is _ :: Is _ :: Is _ :: Is _ :: Is _ :: Is _ :: Is _ :: Is _ :: Is _ :: [])) (Φm := IsAt undef (w2.heap.size + 1) 5 (cells (xorArr xi (j+1)))) (Φ2 := (Is _ :: [])) (hm := by kernel_rfl) (hE := by kernel_rfl) (hD := by kernel_rfl) (hsize := by kernel_rfl)
        case hop =>
         refine ⟨?_, ?_, ?_, ?_, ?_, ?_, ?_, ?_, ?_, ?_, ?_, ?_, ?_, ?_, ?_, trivial⟩
         · intro a' w' hs hp he
           have hp : But (w2.heap.size + 1) _ w' := hp
           have e5 := hs 5 (by kernel_rfl)
           try simp [Is, Region.binds] at he
           exact op_v
         · intro a' w' hs hp he
           have hp : But (w2.heap.size + 1) _ w' := hp
           have e7 := hs 7 (by kernel_rfl)
           try simp [Is, Region.binds] at he
           exact op_v
         · intro a' w' hs hp he
           have hp : But (w2.heap.size + 1) _ w' := hp
           have e6 := hs 6 (by kernel_rfl)
           try simp [Is, Region.binds] at he
           exact op_v
         · intro a' w' hs hp he
           have hp : But (w2.heap.size + 1) _ w' := hp
           have e7 := hs 7 (by kernel_rfl)
           try simp [Is, Region.binds] at he
           exact op_v
         · intro a' w' hs hp he
           have hp : But (w2.heap.size + 1) _ w' := hp
           have e0 := hs 0 (by kernel_rfl)
           try simp [Is, Region.binds] at he
           exact op_v
         · intro a' w' hs hp he
           have hp : But (w2.heap.size + 1) _ w' := hp
           have e7 := hs 7 (by kernel_rfl)
           try simp [Is, Region.binds] at he
           exact op_v
         · intro a' w' hs hp he
           have hp : But (w2.heap.size + 1) _ w' := hp
           try simp [Is, Region.binds] at he
           exact op_v
         · intro a' w' hs hp he
           have hp : But (w2.heap.size + 1) _ w' := hp
           try simp [Is, Region.binds] at he
           exact op_v
         · intro a' w' hs hp he
           have hp : But (w2.heap.size + 1) _ w' := hp
           have e0 := hs 0 (by kernel_rfl)
           try simp [Is, Region.binds] at he
           exact op_v
         · intro a' w' hs hp he
           have hp : But (w2.heap.size + 1) _ w' := hp
           have e7 := hs 7 (by kernel_rfl)
           try simp [Is, Region.binds] at he
           exact op_v
         · intro a' w' hs hp he
           have hp : But (w2.heap.size + 1) _ w' := hp
           try simp [Is, Region.binds] at he
           exact op_v
         · intro a' w' hs hp he
           have hp : But (w2.heap.size + 1) _ w' := hp
           try simp [Is, Region.binds] at he
           exact op_v
         · intro a' w' hs hp he
           have hp : But (w2.heap.size + 1) _ w' := hp
           try simp [Is, Region.binds] at he
           exact op_v
         · intro a' w' hs hp he
           have hp : Pu _ w' := hp
           try simp [Is, Region.binds] at he
           have hr := hin.pu hp; have hc := hr.cell' j (by rw [cells_length]; omega); rw [cells_get _ _ (by omega)] at hc; have hf := hr.frozen j (by rw [cells_length]; omega); refine op_doneB rfl (wanted_none rfl) (by first | (go_simp; done) | (go_simp; rfl)) ⟨rfl, ?_⟩ (But.set _ _ _); have hst := hr.set j (.int .u8 (vi.toNat : Int)); rw [cells_set, HSI.out] at hst; exact hst
         · intro a' w' hs hp he
           have hp : But (w2.heap.size + 1) _ w' := hp
           try simp [Is, Region.binds] at he
           exact op_v
        case hend =>
         intro a' w' hdef hsz hs hp hall
         obtain ⟨r0, r1, r2, r3, r4, r5, r6, r7, r8, r9, r10, r11, r12, r13, r14, -⟩ := hall
         obtain ⟨rv13, row13⟩ := r13
         have hA := agree_done (agree_step (agree_step (agree_step (agree_step (agree_step (agree_step (agree_step (agree_step (agree_step (agree_step (agree_step (agree_step (agree_step (agree_step (agree_initL [25, 26, 27, 28, 29, 30, 31, 32, 33, 34, 35, 36, 37, 38] hsz hs (by kernel_rfl)) r0) r1) r2) r3) r4) r5) r6) r7) r8) r9) r10) r11) r12) r14)
         have ha := act_of hA hdef
         rw [ha]
         clear ha hA hs hsz hdef r0 r1 r2 r3 r4 r5 r6 r7 r8 r9 r10 r11 r12 r14 rv13
         (try simp only [List.setIfInBounds_toArray])
         (try dsimp only [List.set_cons_zero, List.set_cons_succ])
         (try simp only [Exit.then])
         have ho := hp.row hout (by omega); have hc := ho.cell' j (by rw [cells_length]; omega); rw [cells_get _ _ (by omega)] at hc; have hf := ho.frozen j (by rw [cells_length]; omega)
         refine op_done rfl (wanted_none rfl) (by first | (go_simp; done) | (go_simp; rfl)) ?_
         (try simp only [Exit.inBlock, Exit.then])
         go_wp2_with fail
         go_roundw
         case rel =>
          have hst := ho.set j (.int .u8 (vo.toNat : Int))
          rw [cells_set, HSO.out] at hst
          exact ⟨j + 1, by omega, by go_num, row13.setOther _ _ (by simp), hst, (But.below hbel hp (by omega) hbel.size).setCell (by simp; omega) _⟩
         case measure => simp [intOf]; omega
      · obtain rfl : j = 64 := by omega
        rw [HXE.out.1] at hin
        rw [HXE.out.2] at hout
        go_wp2_with fail
        apply region_pu (Φs := (Is _ :: Is _ :: Is _ :: Is _ :: Is _ :: Is _ :: Is _ :: Is _ :: Is _ :: Is _ :: [])) (hm := by kernel_rfl) (hE := by kernel_rfl) (hD := by kernel_rfl) (hsize := by kernel_rfl)
        case hop =>
         refine ⟨?_, ?_, ?_, ?_, ?_, ?_, ?_, ?_, ?_, ?_, trivial⟩
         · intro a' w' hs hp he
           have e6 := hs 6 (by kernel_rfl)
           try simp [Is, Region.binds] at he
           exact op_v
         · intro a' w' hs hp he
           try simp [Is, Region.binds] at he
           have hcv := Row.conv (P := Tryz.prog) (cap := 64) (n := 64) (l := xo) 51 9 (hout.pu hp) hxol.symm Tryz.underlying51 Tryz.underlying5 Tryz.underlying9; exact op_val rfl (wanted_none rfl) (by first | (go_simp; done) | (go_simp; rfl)) rfl (Pu.refl _)
         · intro a' w' hs hp he
           have e5 := hs 5 (by kernel_rfl)
           try simp [Is, Region.binds] at he
           exact op_v
         · intro a' w' hs hp he
           try simp [Is, Region.binds] at he
           have hcv := Row.conv (P := Tryz.prog) (cap := 64) (n := 64) (l := xi) 51 9 (hin.pu hp) hxil.symm Tryz.underlying51 Tryz.underlying5 Tryz.underlying9; exact op_val rfl (wanted_none rfl) (by first | (go_simp; done) | (go_simp; rfl)) rfl (Pu.refl _)
         · intro a' w' hs hp he
           have e1 := hs 1 (by kernel_rfl)
           try simp [Is, Region.binds] at he
           exact op_v
         · intro a' w' hs hp he
           try simp [Is, Region.binds] at he
           exact op_v
         · intro a' w' hs hp he
           try simp [Is, Region.binds] at he
           exact op_callP (HS1.out _) rfl (wanted_none rfl) (by first | (go_simp; done) | (go_simp; rfl)) (fun _ => rfl)
         · intro a' w' hs hp he
           try simp [Is, Region.binds] at he
           exact op_v
         · intro a' w' hs hp he
           try simp [Is, Region.binds] at he
           exact op_callP (HS2.out _) rfl (wanted_none rfl) (by first | (go_simp; done) | (go_simp; rfl)) (fun _ => rfl)
         · intro a' w' hs hp he
           try simp [Is, Region.binds] at he
           exact op_v
        case hend =>
         intro a' w' hdef hsz hs hp hall
         obtain ⟨r0, r1, r2, r3, r4, r5, r6, r7, r8, r9, -⟩ := hall
         have hA := agree_done (agree_step (agree_step (agree_step (agree_step (agree_step (agree_step (agree_step (agree_step (agree_step (agree_step (agree_init [39, 40, 41, 42, 43, 44, 45, 46, 47, 4] hsz hs (by kernel_rfl)) r0) r1) r2) r3) r4) r5) r6) r7) r8) r9)
         have ha := act_of hA hdef
         rw [ha]
         clear ha hA hs hsz hdef r0 r1 r2 r3 r4 r5 r6 r7 r8 r9 
         (try simp only [List.setIfInBounds_toArray])
         (try dsimp only [List.set_cons_zero, List.set_cons_succ])
         (try simp only [Exit.then])
         go_wp2_with fail
         go_ret
         exact ⟨by rw [HF.out]; rfl, hbel.trans (Below.mono hp hbel.size)⟩
end Go.Proofs.YtoakccknimoogaaGreat
set_option linter.unusedSimpArgs false
set_option linter.unusedVariables false
namespace Go.Proofs.YtoakccknimoogaaGreat
open Go.RowKit Go.Esc
set_option maxRecDepth 100000 in
set_option maxHeartbeats 1600000 in
theorem refExpand (key info : Bs) (n : Int) (h : key.length ≤ 100000) (h2 : info.length ≤ 700000) (h0 : 0 ≤ n) (hm : n ≤ 8160) (w : World) :
 Calls Tryz.prog 84 #[S key, S info, .int .i64 n] w fun e w' => e = .returned (.tuple #[S (expandL key info n.toNat), .bool true]) ∧ Pu w w' := by
 obtain ⟨N, rfl⟩ := Int.eq_ofNat_of_zero_le h0
 have q1 : decide ((N : Int) < 0) = false := by simp
 have q2 : decide ((8160 : Int) < N) = false := by simp; omega
 have q3 : ¬ ((N : Int) < 0) := by omega
 have q4 : ¬ ((8160 : Int) < N) := by omega
 go_enter Tryz.func84, Tryz.ntmps84
 go_wp2_with fail
 go_loopw [8, 9, 10] (fun v l i wr => ∃ (k K : Nat), K = k + 1 ∧ 32 * k < N + 32 ∧ v = S (outE key info k) ∧ l = S (lastE key info k) ∧ i = .int .i64 (K : Int) ∧ Pu w wr) (fun _ _ i _ => N + 32 - 32 * (intOf i).toNat)
 case atStart => exact ⟨0, 1, rfl, by omega, rfl, rfl, rfl, Pu.refl _⟩
 case round =>
  obtain ⟨k, K, hK, hkn, rfl, rfl, rfl, hpu⟩ := hrel
  have hol := outE_length key info k
  have hll := lastE_length key info k
  have hnl : lastE key info (k + 1) = macL key (lastE key info k ++ info ++ [UInt8.ofNat (k+1)]) := rfl
  have hno : outE key info (k + 1) = outE key info k ++ lastE key info (k + 1) := rfl
  have hnl2 : (lastE key info (k + 1)).length = 32 := macL_length _ _
  obtain ⟨o, ho⟩ : ∃ o, o = outE key info k := ⟨_, rfl⟩
  obtain ⟨l, hl⟩ : ∃ o, o = lastE key info k := ⟨_, rfl⟩
  obtain ⟨l2, hl2⟩ : ∃ o, o = lastE key info (k+1) := ⟨_, rfl⟩
  rw [← ho] at hol hno ⊢
  rw [← hl] at hll hnl ⊢
  rw [← hl2] at hnl hno hnl2
  by_cases hlt : 32 * k < N
  · have hlt' : (o.length : Int) < N := by omega
    have hK256 : K < 256 := by omega
    have hmod : (K : Int) % 256 = K := by omega
    have hcv := one_byte_eq (P := Tryz.prog) wr K hK256 51 9 5 Tryz.underlying51 Tryz.underlying5 Tryz.underlying9
    obtain ⟨c1, hc1⟩ : ∃ c, c = UInt8.ofNat K := ⟨_, rfl⟩
    rw [← hc1] at hcv
    have hM := fun w => refMac key (l ++ (info ++ [c1])) (by omega) (by simp; omega) w
    rw [show macL key (l ++ (info ++ [c1])) = l2 by rw [hnl, hc1, hK, List.append_assoc]] at hM
    have HM := Lib.hid hM
    have z1 : ¬ (9223372036854775807 < l.length + info.length) := by omega
    have z2 : ¬ (9223372036854775807 < l.length + info.length + 1) := by omega
    have z2b : ¬ (9223372036854775807 < l.length + (info.length + 1)) := by omega
    have z3 : ¬ (9223372036854775807 < o.length + l2.length) := by omega
    have z4 : ¬ (9223372036854775807 < o.length + 32) := by omega
    have HO := Lib.hid ho
    have HL := Lib.hid hl
    have HL2 := Lib.hid hl2
    have HNO := Lib.hid hno
    have HKK := Lib.hid hK
    have HC1 := Lib.hid hc1
    clear hM ho hl hl2 hno hnl hK hc1
    go_wp2_with (go_at_call 129; refine (HM.out _).mono ?_; rintro e w1 ⟨rfl, hp1⟩)
    go_roundw
    case rel =>
     have hKK := HKK.out
     exact ⟨k + 1, K + 1, by omega, by omega, by rw [HNO.out], by rw [HL2.out], by go_num, (hpu.alloc _).trans hp1⟩
    case measure => have hKK := HKK.out; simp [intOf]; omega
  · have hlt' : decide ((o.length : Int) < N) = false := by simp; omega
    have hlt2 : (N : Int) ≤ o.length := by omega
    have hk : k = (N + 31) / 32 := by omega
    have hfin : expandL key info N = o.take N := by rw [expandL, ← hk, ho]
    have HF := Lib.hid hfin
    clear hfin ho hl hl2 hno hnl hK hk
    go_wp2_with fail
    go_ret2
    exact ⟨by rw [show ((N : Int)).toNat = N from rfl, HF.out]; rfl, hpu⟩
end Go.Proofs.YtoakccknimoogaaGreat
set_option linter.unusedSimpArgs false
set_option linter.unusedVariables false
namespace Go.Proofs.YtoakccknimoogaaGreat
open Go.RowKit Go.Esc
theorem refNonce (n : Nat) (hn : n < 9223372036854775808) (w : World) :
 Calls Tryz.prog 29 #[.int .i64 (n : Int)] w fun e w' => e = .returned (S (nonceL n)) ∧ Pu w w' := by
 have hR := fun w => refZeros 4 (by decide) w
 have hP := fun w => refPutBig (n : Int) 8 w (by omega) (by omega) (by omega) (by omega)
 obtain ⟨r, hr⟩ : ∃ r, r = List.replicate 4 (0 : UInt8) := ⟨_, rfl⟩
 obtain ⟨p, hp⟩ : ∃ p, p = putB n 8 := ⟨_, rfl⟩
 have hrl : r.length = 4 := by rw [hr]; rfl
 have hpl : p.length = 8 := by rw [hp]; exact putB_length _ _
 rw [← hr] at hR
 rw [show putB ((n : Int)).toNat (8 : Int).toNat = p by rw [hp]; rfl] at hP
 have hfin : r ++ p = nonceL n := by rw [hr, hp]; rfl
 obtain ⟨x, hx⟩ : ∃ x, x = nonceL n := ⟨_, rfl⟩
 rw [← hx] at hfin ⊢
 have hw : IntKind.u64.wrap (n : Int) = n := by rw [IntKind.wrap_u64]; omega
 have HR := Lib.hid hR
 have HP := Lib.hid hP
 clear hR hP hr hp hx
 go_enter Tryz.func29, Tryz.ntmps29
 go_wp2_with (first
  | (go_at_call 77; refine (HR.out _).mono ?_; rintro e w1 ⟨rfl, hp1⟩)
  | (go_at_call 26; refine (HP.out _).mono ?_; rintro e w2 ⟨rfl, hp2⟩))
 go_ret
 exact ⟨rfl, hp1.trans hp2⟩
set_option maxRecDepth 100000 in
set_option maxHeartbeats 1600000 in
theorem refTurn (k : Bs) (n : Nat) (h : k.length ≤ 100000) (h1 : n ≤ 1000) (w : World) :
 Calls Tryz.prog 28 #[S k, .int .i64 (n : Int)] w fun e w' => e = .returned (S (turnL k n)) ∧ Pu w w' := by
 go_enter Tryz.func28, Tryz.ntmps28
 go_wp2_with fail
 go_loopw [0, 5] (fun v i wr => ∃ j : Nat, j ≤ n ∧ v = S (turnL k j) ∧ i = .int .i64 (j : Int) ∧ Pu w wr) (fun _ i _ => n - (intOf i).toNat)
 case atStart => exact ⟨0, by omega, rfl, rfl, Pu.refl _⟩
 case round =>
  obtain ⟨j, hj, rfl, rfl, hpu⟩ := hrel
  have htl := turnL_length k j h
  have hnx : turnL k (j+1) = nextL (turnL k j) := rfl
  obtain ⟨t, ht⟩ : ∃ t, t = turnL k j := ⟨_, rfl⟩
  rw [← ht] at htl hnx ⊢
  by_cases hlt : j < n
  · have hlt' : (j : Int) < n := by omega
    have hN := fun w => refExpand t ratchetW 32 htl (by decide) (by decide) (by decide) w
    obtain ⟨t2, ht2⟩ : ∃ t, t = turnL k (j+1) := ⟨_, rfl⟩
    rw [show expandL t ratchetW (32 : Int).toNat = t2 by rw [ht2, hnx]; rfl] at hN
    have HN := Lib.hid hN
    have HT2 := Lib.hid ht2
    clear hN ht ht2 hnx
    go_wp2_with (go_at_call 84; refine (HN.out _).mono ?_; rintro e w3 ⟨rfl, hp3⟩)
    go_roundw
    case rel => exact ⟨j + 1, by omega, by rw [HT2.out], by go_num, hpu.trans hp3⟩
    case measure => simp [intOf]; omega
  · obtain rfl : j = n := by omega
    have hlt' : decide ((j : Int) < j) = false := by simp
    have HT := Lib.hid ht
    clear ht hnx
    go_wp2_with fail
    go_ret
    exact ⟨by rw [← HT.out]; rfl, hpu⟩
end Go.Proofs.YtoakccknimoogaaGreat
