/- (*Digest).Sum. -/
import Derived.Test.YtdjbhbefghihcaaDigAdd
import Derived.Test.YtdjbhbefghihcaaRegionG
import Derived.Test.YtdjbhbefghihcaaBuild
import Derived.Test.YtdjbhbefghihcaaPad
import Derived.Test.YtdjbhbefghihcaaIndex
set_option linter.unusedSimpArgs false
set_option linter.unusedVariables false
namespace Go.Proofs.Ytdjbhbefghihcaa
open Go.RowKit Go.Esc
theorem sha_take (x : St) (j : Nat) (h : j < 8) : (x.l.take (j+1)).flatMap (fun w => putB w.toNat 4) = (x.l.take j).flatMap (fun w => putB w.toNat 4) ++ putB ((x.l.getD j 0).toNat) 4 := by
  rw [List.take_succ_eq_append_getElem (by show j < 8; exact h), List.flatMap_append]
  congr 1
  simp [List.getD_eq_getElem?_getD, List.getElem?_eq_getElem (show j < x.l.length from h)]
theorem flat4 (l : List Wd) : (l.flatMap fun w => putB w.toNat 4).length = 4 * l.length := flat_length l
set_option maxRecDepth 100000 in
set_option maxHeartbeats 3200000 in
theorem digestSum (db : Nat) (l : Bs) (hl : l.length ≤ 900000) (w : World) (hd : Dig w db l) :
    Calls Try.prog 44 #[.pointer (some ⟨db, 0, none⟩)] w fun e w' => e = .returned (S (sha l)) ∧ Pu w w' := by
  obtain ⟨de, xs, hd, hx⟩ := hd
  have hlt := hd.lt
  have hx11 := hx.length
  have hone := hx.one
  have hc := hx.cell hd
  have hi11 : (Try.prog.info? 38).map (·.size) = some 11 := by kernel_rfl
  have hi8 : (Try.prog.info? 36).map (·.size) = some 8 := by kernel_rfl
  have htk : ((xs.drop 0).take 11) = xs := by rw [List.drop_zero, List.take_of_length_le (by omega)]
  obtain ⟨r, hr⟩ : ∃ r, r = l.length % 64 := ⟨_, rfl⟩
  obtain ⟨z, hz⟩ : ∃ z, z = (119 - r) % 64 := ⟨_, rfl⟩
  have z1 : ((l.length : Int)).tmod 64 = r := by rw [Int.tmod_eq_emod_of_nonneg (by omega)]; omega
  have z2 : ((119 : Int) - r).tmod 64 = z := by rw [Int.tmod_eq_emod_of_nonneg (by omega)]; omega
  have z3 : IntKind.i64.wrap ((119 : Int) - r) = 119 - r := by rw [IntKind.wrap_i64]; omega
  have z4 : IntKind.u64.wrap (l.length : Int) = l.length := by rw [IntKind.wrap_u64]; omega
  have z5 : IntKind.u64.wrap ((l.length : Int) * 8) = l.length * 8 := by rw [IntKind.wrap_u64]; omega
  have hpad : (128 : UInt8) :: (List.replicate z 0 ++ putB ((l.length : Int) * 8).toNat 8) = shaPad l.length := by
    rw [shaPad, ← hr, ← hz, show ((l.length : Int) * 8).toNat = l.length * 8 % 2 ^ 64 by omega]; rfl
  have hpl : l.length + (shaPad l.length).length ≤ 1000000 := by rw [← hpad]; simp [putB_length]; omega
  have hz64 : z < 64 := by omega
  have HX := Lib.hid hx
  have HPAD := Lib.hid hpad
  have HPL := Lib.hid hpl
  clear hx hpad hr hz hpl
  go_enter Try.func44, Try.ntmps44
  go_wp2_with (first
    | (refine wpList_load_part rfl 38 (.tmp 12) rfl db 0 11 (by rfl) (hd.alloc _) Try.underlying38 rfl hi11 (by omega) ?_; rw [htk])
    | (refine wpList_store_part rfl 38 (.tmp 4) (.tmp 13) rfl (w.heap.size + 1) 0 xs (by rfl) (by rfl) (Row.newAt _ _ _ _ (by simp) rfl) (by rw [hx11]; exact hi11) (by rw [hx11]; exact Nat.le_refl 11) hone ?_; intro w1 hx1 hch1
       rw [splice_all (by rw [hx11]; rfl)] at hx1
       have hd1 := hch1.row ((hd.alloc _).alloc _) (by omega)
       have hc1 := HX.out.cell hd1
       have ht1 := hch1.row ((Row.newAt w w.heap.size _ _ rfl rfl : Row _ w.heap.size 92 (once0 0 ++ zeros72)).alloc _) (by omega)
       have hp1 : Below w.heap.size w w1 := hch1.below (((Pu.refl w).alloc _).alloc _) (by omega)))
  have k84 : ∀ args w, (callFunc 84 args).run Try.prog w = .ok (.enter 84 args) w := fun args w => run_callFunc_body Try.func84 (by kernel_rfl) (by kernel_rfl) args w
  have k77 : ∀ args w, (callFunc 77 args).run Try.prog w = .ok (.enter 77 args) w := fun args w => run_callFunc_body Try.func77 (by kernel_rfl) (by kernel_rfl) args w
  have k76 : ∀ args w, (callFunc 76 args).run Try.prog w = .ok (.enter 76 args) w := fun args w => run_callFunc_body Try.func76 (by kernel_rfl) (by kernel_rfl) args w
  have k83 : ∀ args w, (callFunc 83 args).run Try.prog w = .ok (.enter 83 args) w := fun args w => run_callFunc_body Try.func83 (by kernel_rfl) (by kernel_rfl) args w
  have z6 : ¬ (9223372036854775807 < 1 + z) := by omega
  have z7 : (putB ((l.length : Int) * 8).toNat 8).length = 8 := putB_length _ _
  have z8 : ¬ (9223372036854775807 < z + 1 + 8) := by omega
  have k128 : (ByteArray.mk #[128]) = bs [128] := rfl
  have hadd : ∀ w', But w.heap.size w1 w' → Row w' w.heap.size 92 tableCells → Calls Try.prog 83 #[.pointer (some ⟨w.heap.size + 1, 0, none⟩), .pointer (some ⟨w.heap.size, 0, none⟩), S (128 :: (List.replicate z 0 ++ putB ((l.length : Int) * 8).toNat 8))] w' fun e w2 => e = .returned (.tuple #[]) ∧ But (w.heap.size + 1) w' w2 ∧ Row w2 (w.heap.size + 1) 38 (dcells true (vs (wordsOf (l ++ shaPad l.length)).l) (restOf (l ++ shaPad l.length)) (l ++ shaPad l.length).length) := by
    intro w' hp hr
    rw [HPAD.out]
    exact add (w.heap.size + 1) w.heap.size _ _ (by omega) l (shaPad l.length) HPL.out xs HX.out w' (hp.row hx1 (by omega)) hr
  have HADD := Lib.hid hadd
  clear z1 z2 z3 htk hadd
  apply region_writer (g := w.heap.size) (n := 12) (hn := by kernel_rfl) (hlast := rfl) (hU := by kernel_rfl) (Φ1 := ([])) (Φm := IsAt (.pointer (some ⟨w.heap.size, 0, none⟩)) w.heap.size 92 tableCells) (Φ2 := (Is _ :: Is _ :: Is _ :: Is _ :: Is _ :: Is _ :: Is _ :: Is _ :: Is _ :: Is _ :: Is _ :: [])) (hm := by kernel_rfl) (hE := by kernel_rfl) (hD := by kernel_rfl) (hsize := by kernel_rfl)
  case hop =>
    refine ⟨?_, ?_, ?_, ?_, ?_, ?_, ?_, ?_, ?_, ?_, ?_, ?_, trivial⟩
    · intro a' w' hs hp he
      have hp : Pu _ w' := hp
      have e3 := hs 3 (by kernel_rfl)
      try simp [Is, Region.binds] at he
      exact op_callB rfl (wanted_none rfl) (by first | (go_simp; done) | (go_simp; rfl)) ((table_made w.heap.size _ w' (ht1.pu hp)).mono (by rintro e w2 ⟨rfl, hb, ht⟩; exact ⟨_, rfl, ⟨rfl, ht⟩, hb⟩))
    · intro a' w' hs hp he
      have hp : But w.heap.size _ w' := hp
      have e5 := hs 5 (by kernel_rfl)
      try simp [Is, Region.binds] at he
      exact op_val rfl (wanted_none rfl) (by first | (go_simp; done) | (go_simp; rfl) | (simp [execOp, Act.eval, go_sem, *]; done) | (simp [execOp, Act.eval, go_sem, *]; rfl)) rfl (Pu.refl _)
    · intro a' w' hs hp he
      have hp : But w.heap.size _ w' := hp
      try simp [Is, Region.binds] at he
      exact op_callP (rep 0 z w' (by omega) (by omega)) rfl (wanted_none rfl) (by first | (go_simp; done) | (go_simp; rfl)) (fun _ => rfl)
    · intro a' w' hs hp he
      have hp : But w.heap.size _ w' := hp
      try simp [Is, Region.binds] at he
      exact op_val rfl (wanted_none rfl) (by first | (go_simp; done) | (go_simp; rfl) | (simp [execOp, Act.eval, go_sem, *]; done) | (simp [execOp, Act.eval, go_sem, *]; rfl)) rfl (Pu.refl _)
    · intro a' w' hs hp he
      have hp : But w.heap.size _ w' := hp
      have e0 := hs 0 (by kernel_rfl)
      try simp [Is, Region.binds] at he
      exact op_val rfl (wanted_none rfl) (by first | (go_simp; done) | (go_simp; rfl) | (simp [execOp, Act.eval, go_sem, *]; done) | (simp [execOp, Act.eval, go_sem, *]; rfl)) rfl (Pu.refl _)
    · intro a' w' hs hp he
      have hp : But w.heap.size _ w' := hp
      try simp [Is, Region.binds] at he
      exact op_val rfl (wanted_none rfl) (by first | (go_simp; done) | (go_simp; rfl) | (simp [execOp, Act.eval, go_sem, *]; done) | (simp [execOp, Act.eval, go_sem, *]; rfl)) rfl (Pu.refl _)
    · intro a' w' hs hp he
      have hp : But w.heap.size _ w' := hp
      try simp [Is, Region.binds] at he
      exact op_val rfl (wanted_none rfl) (by first | (go_simp; done) | (go_simp; rfl) | (simp [execOp, Act.eval, go_sem, *]; done) | (simp [execOp, Act.eval, go_sem, *]; rfl)) rfl (Pu.refl _)
    · intro a' w' hs hp he
      have hp : But w.heap.size _ w' := hp
      try simp [Is, Region.binds] at he
      have c := HX.out.cell (hp.row hd1 (by omega)); exact op_val rfl (wanted_none rfl) (by first | (go_simp; done) | (go_simp; rfl)) rfl (Pu.refl _)
    · intro a' w' hs hp he
      have hp : But w.heap.size _ w' := hp
      try simp [Is, Region.binds] at he
      exact op_val rfl (wanted_none rfl) (by first | (go_simp; done) | (go_simp; rfl) | (simp [execOp, Act.eval, go_sem, *]; done) | (simp [execOp, Act.eval, go_sem, *]; rfl)) rfl (Pu.refl _)
    · intro a' w' hs hp he
      have hp : But w.heap.size _ w' := hp
      try simp [Is, Region.binds] at he
      exact op_val rfl (wanted_none rfl) (by first | (go_simp; done) | (go_simp; rfl) | (simp [execOp, Act.eval, go_sem, *]; done) | (simp [execOp, Act.eval, go_sem, *]; rfl)) rfl (Pu.refl _)
    · intro a' w' hs hp he
      have hp : But w.heap.size _ w' := hp
      try simp [Is, Region.binds] at he
      exact op_callP (putBig ((l.length : Int) * 8) 8 w' (by omega) (by omega) (by omega)) rfl (wanted_none rfl) (by first | (go_simp; done) | (go_simp; rfl)) (fun _ => rfl)
    · intro a' w' hs hp he
      have hp : But w.heap.size _ w' := hp
      try simp [Is, Region.binds] at he
      exact op_val rfl (wanted_none rfl) (by first | (go_simp; done) | (go_simp; rfl) | (simp [execOp, Act.eval, go_sem, *]; done) | (simp [execOp, Act.eval, go_sem, *]; rfl)) rfl (Pu.refl _)
  case hend =>
    intro a' w' hdef hsz hs hp hall
    obtain ⟨r0, r1, r2, r3, r4, r5, r6, r7, r8, r9, r10, r11, -⟩ := hall
    obtain ⟨rv0, row0⟩ := r0
    have hA := agree_done (agree_step (agree_step (agree_step (agree_step (agree_step (agree_step (agree_step (agree_step (agree_step (agree_step (agree_step (agree_step (agree_initL [21, 22, 23, 24, 25, 26, 27, 28, 29, 30, 31, 32] hsz hs (by kernel_rfl)) rv0) r1) r2) r3) r4) r5) r6) r7) r8) r9) r10) r11)
    have ha := act_of hA hdef
    rw [ha]
    clear ha hA hs hsz hdef r1 r2 r3 r4 r5 r6 r7 r8 r9 r10 r11 rv0
    (try simp only [List.setIfInBounds_toArray])
    (try dsimp only [List.set_cons_zero, List.set_cons_succ])
    (try simp only [Exit.then])
    refine op_callK rfl (wanted_none rfl) (by first | (go_simp; done) | (go_simp; rfl)) ((HADD.out w' hp row0).mono ?_); rintro e w2 ⟨rfl, hb2, hr2⟩; refine ⟨_, rfl, ?_⟩
    (try simp only [Exit.inBlock, Exit.then])
    have hp2 : Below w.heap.size w w2 := But.below (But.below hp1 hp (Nat.le_refl _) hp1.size) hb2 (by omega) (Nat.le_trans hp1.size hp.size)
    have hs2 : w.heap.size + 2 ≤ w2.heap.size := by have := hr2.lt; omega
    obtain ⟨m, hm⟩ : ∃ m, m = l ++ shaPad l.length := ⟨_, rfl⟩
    rw [← hm] at hr2
    have hsha : sha l = (wordsOf m).l.flatMap (fun w => putB w.toNat 4) := by rw [hm]; rfl
    obtain ⟨x, hx⟩ : ∃ x, x = wordsOf m := ⟨_, rfl⟩
    rw [← hx] at hsha hr2
    obtain ⟨ws, hws⟩ : ∃ v, v = vs x.l := ⟨_, rfl⟩
    rw [← hws] at hr2
    have hws8 : ws.length = 8 := by rw [hws]; rfl
    have hdw := dcells_words true ws hws8 (restOf m) (m.length : Int)
    have hdl := dcells_length true ws hws8 (restOf m) (m.length : Int)
    have HSHA := Lib.hid hsha
    have HWS := Lib.hid hws
    clear hm hx hsha hws hp hd1 hc1 ht1 hx1 hch1 hp1 row0 hb2
    go_wp2_with (first
      | (refine wpList_load_part rfl 36 (.tmp 34) rfl (w.heap.size + 1) 1 8 (by rfl) (hr2.alloc _) Try.underlying36 rfl hi8 (by omega) ?_; rw [hdw]))
    have hbd : Bld (w2.alloc (.cells #[.pointer none, .slice none 0 0] 98)) w2.heap.size [] := Bld.new _ _ _ _ rfl rfl rfl
    have hbel : Below w.heap.size w (w2.alloc (.cells #[.pointer none, .slice none 0 0] 98)) := hp2.alloc (by omega) _
    clear hr2 hp2 hd hdw hdl
    go_loopw [36] (fun i wr => ∃ j : Nat, j ≤ 8 ∧ i = .int .i64 (j : Int) ∧ Bld wr w2.heap.size ((x.l.take j).flatMap fun w => putB w.toNat 4) ∧ Below w.heap.size w wr) (fun i _ => 8 - (intOf i).toNat)
    case atStart => exact ⟨0, by omega, rfl, hbd, hbel⟩
    case round =>
      clear hbd hbel
      obtain ⟨j, hj, rfl, hbd, hbel⟩ := hrel
      by_cases hlt : j < 8
      · have hst := sha_take x j hlt
        obtain ⟨y, hy⟩ : ∃ y, y = x.l.getD j 0 := ⟨_, rfl⟩
        rw [← hy] at hst
        have hget : ws[j]? = some (V y) := by rw [HWS.out, hy]; exact vs_get _ _ hlt
        obtain ⟨acc, hacc⟩ : ∃ a, a = ((x.l.take j).flatMap fun w => putB w.toNat 4) := ⟨_, rfl⟩
        have hal : acc.length = 4 * j := by rw [hacc, flat4, List.length_take, show x.l.length = 8 from rfl]; omega
        rw [← hacc] at hst hbd
        have hwy : IntKind.u64.wrap (wd y) = wd y := wrap64_wd y
        have hwn := wd_nonneg y
        have hw4 : (putB (wd y).toNat 4).length = 4 := putB_length _ _
        have HST := Lib.hid hst
        have HACC := Lib.hid hacc
        have h0j : (0 : Int) ≤ j := by omega
        have h8j : (j : Int) < 8 := by omega
        have hix := fun w => run_index_agg (P := Try.prog) 36 35 8 ws .i64 j (V y) w Try.underlying36 hlt (by kernel_rfl) (by kernel_rfl) hget
        clear hst hacc hy hget
        go_wp2_with (first
          | (go_at_call 76; refine (putBig (wd y) 4 _ hwn (by omega) (by omega)).mono ?_; rintro e w3 ⟨rfl, hp3⟩; replace hbd := hbd.pu hp3; replace hbel := hbel.trans (Below.mono hp3 hbel.size))
          | (go_at_call 85; refine (write w2.heap.size acc (putB (wd y).toNat 4) _ hbd (by omega)).mono ?_; rintro e w4 ⟨rfl, hbd4, hp4⟩))
        go_roundw
        case rel =>
          refine ⟨j + 1, by omega, by go_num, ?_, hbel.trans (Below.mono hp4 (by omega))⟩
          rw [HST.out]
          have : (wd y).toNat = y.toNat := wd_toNat y
          rw [← this]; exact hbd4
        case measure => simp [intOf]; omega
      · obtain rfl : j = 8 := by omega
        rw [show x.l.take 8 = x.l from rfl] at hbd
        obtain ⟨acc, hacc⟩ : ∃ a, a = (x.l.flatMap fun w => putB w.toNat 4) := ⟨_, rfl⟩
        rw [← hacc] at hbd
        have HACC := Lib.hid hacc
        clear hacc
        go_wp2_with (go_at_call 86; refine (string w2.heap.size acc _ hbd).mono ?_; rintro e w4 ⟨rfl, hp4⟩)
        go_ret
        exact ⟨by rw [HSHA.out, ← HACC.out]; rfl, hbel.trans (Below.mono hp4 (by omega))⟩
end Go.Proofs.Ytdjbhbefghihcaa
