/- (*Digest).Sum. digest.Sum. Package mac. The letters of a handshake: what they are, without the program. A slice of one byte as a text. Package hello: letters as bytes, and back. -/
import Derived.Test.YtlbdbmnkjljohaaGreatT5
set_option linter.unusedSimpArgs false
set_option linter.unusedVariables false
set_option linter.unusedSimpArgs false
set_option linter.unusedVariables false
namespace Go.Proofs.YtlbdbmnkjljohaaGreat
open Go.RowKit Go.Esc
theorem sha_take (x : St) (j : Nat) (h : j < 8) : (x.l.take (j+1)).flatMap (fun w => putB w.toNat 4) = (x.l.take j).flatMap (fun w => putB w.toNat 4) ++ putB ((x.l.getD j 0).toNat) 4 := by
  rw [List.take_succ_eq_append_getElem (by show j < 8; exact h), List.flatMap_append]
  congr 1
  simp [List.getD_eq_getElem?_getD, List.getElem?_eq_getElem (show j < x.l.length from h)]
theorem flat4 (l : List Wd) : (l.flatMap fun w => putB w.toNat 4).length = 4 * l.length := flat_length l
set_option maxRecDepth 100000 in
set_option maxHeartbeats 3200000 in
theorem digestSum (db : Nat) (l : Bs) (hl : l.length ≤ 900000) (w : World) (hd : Dig w db l) :
    Calls Tryz.prog 93 #[.pointer (some ⟨db, 0, none⟩)] w fun e w' => e = .returned (S (sha l)) ∧ Pu w w' := by
  obtain ⟨de, xs, hd, hx⟩ := hd
  have hlt := hd.lt
  have hx11 := hx.length
  have hone := hx.one
  have hc := hx.cell hd
  have hi11 : (Tryz.prog.info? 150).map (·.size) = some 11 := by kernel_rfl
  have hi8 : (Tryz.prog.info? 148).map (·.size) = some 8 := by kernel_rfl
  have htk : ((xs.drop 0).take 11) = xs := by rw [List.drop_zero, List.take_of_length_le (by omega)]
  obtain ⟨r, hr⟩ : ∃ r, r = l.length % 64 := ⟨_, rfl⟩
  obtain ⟨z, hz⟩ : ∃ z, z = (119 - r) % 64 := ⟨_, rfl⟩
  have z1 : ((l.length : Int)).tmod 64 = r := by rw [Int.tmod_eq_emod_of_nonneg (by omega)]; omega
  have z2 : ((119 : Int) - r).tmod 64 = z := by rw [Int.tmod_eq_emod_of_nonneg (by omega)]; omega
  have z3 : IntKind.i64.wrap ((119 : Int) - r) = 119 - r := by rw [IntKind.wrap_i64]; omega
  have z4 : IntKind.u64.wrap (l.length : Int) = l.length := by rw [IntKind.wrap_u64]; omega
  have z5 : IntKind.u64.wrap ((l.length : Int) * 8) = l.length * 8 := by rw [IntKind.wrap_u64]; omega
  have hpad : (128 : UInt8) :: (List.replicate z 0 ++ putB ((l.length : Int) * 8).toNat 8) = shaPad l.length := by
    rw [shaPad, ← hr, ← hz, show ((l.length : Int) * 8).toNat = l.length * 8 % 2 ^ 64 by omega]; rfl
  have hpl : l.length + (shaPad l.length).length ≤ 1000000 := by rw [← hpad]; simp [putB_length]; omega
  have hz64 : z < 64 := by omega
  have HX := Lib.hid hx
  have HPAD := Lib.hid hpad
  have HPL := Lib.hid hpl
  clear hx hpad hr hz hpl
  go_enter Tryz.func93, Tryz.ntmps93
  go_wp2_with (first
    | (refine wpList_load_part rfl 150 (.tmp 12) rfl db 0 11 (by rfl) (hd.alloc _) Tryz.underlying150 rfl hi11 (by omega) ?_; rw [htk])
    | (refine wpList_store_part rfl 150 (.tmp 4) (.tmp 13) rfl (w.heap.size + 1) 0 xs (by rfl) (by rfl) (Row.newAt _ _ _ _ (by simp) rfl) (by rw [hx11]; exact hi11) (by rw [hx11]; exact Nat.le_refl 11) hone ?_; intro w1 hx1 hch1
       rw [splice_all (by rw [hx11]; rfl)] at hx1
       have hd1 := hch1.row ((hd.alloc _).alloc _) (by omega)
       have hc1 := HX.out.cell hd1
       have ht1 := hch1.row ((Row.newAt w w.heap.size _ _ rfl rfl : Row _ w.heap.size 166 (once0 0 ++ zeros72)).alloc _) (by omega)
       have hp1 : Below w.heap.size w w1 := hch1.below (((Pu.refl w).alloc _).alloc _) (by omega)))
  have k84 : ∀ args w, (callFunc 107 args).run Tryz.prog w = .ok (.enter 107 args) w := fun args w => run_callFunc_body Tryz.func107 (by kernel_rfl) (by kernel_rfl) args w
  have k77 : ∀ args w, (callFunc 90 args).run Tryz.prog w = .ok (.enter 90 args) w := fun args w => run_callFunc_body Tryz.func90 (by kernel_rfl) (by kernel_rfl) args w
  have k76 : ∀ args w, (callFunc 108 args).run Tryz.prog w = .ok (.enter 108 args) w := fun args w => run_callFunc_body Tryz.func108 (by kernel_rfl) (by kernel_rfl) args w
  have k83 : ∀ args w, (callFunc 106 args).run Tryz.prog w = .ok (.enter 106 args) w := fun args w => run_callFunc_body Tryz.func106 (by kernel_rfl) (by kernel_rfl) args w
  have z6 : ¬ (9223372036854775807 < 1 + z) := by omega
  have z7 : (putB ((l.length : Int) * 8).toNat 8).length = 8 := putB_length _ _
  have z8 : ¬ (9223372036854775807 < z + 1 + 8) := by omega
  have k128 : (ByteArray.mk #[128]) = bs [128] := rfl
  have hadd : ∀ w', But w.heap.size w1 w' → Row w' w.heap.size 166 tableCells → Calls Tryz.prog 106 #[.pointer (some ⟨w.heap.size + 1, 0, none⟩), .pointer (some ⟨w.heap.size, 0, none⟩), S (128 :: (List.replicate z 0 ++ putB ((l.length : Int) * 8).toNat 8))] w' fun e w2 => e = .returned (.tuple #[]) ∧ But (w.heap.size + 1) w' w2 ∧ Row w2 (w.heap.size + 1) 150 (dcells true (vs (wordsOf (l ++ shaPad l.length)).l) (restOf (l ++ shaPad l.length)) (l ++ shaPad l.length).length) := by
    intro w' hp hr
    rw [HPAD.out]
    exact add (w.heap.size + 1) w.heap.size _ _ (by omega) l (shaPad l.length) HPL.out xs HX.out w' (hp.row hx1 (by omega)) hr
  have HADD := Lib.hid hadd
  clear z1 z2 z3 htk hadd
  apply region_writer (g := w.heap.size) (n := 12) (hn := by kernel_rfl) (hlast := rfl) (hU := by kernel_rfl) (Φ1 := ([])) (Φm := IsAt (.pointer (some ⟨w.heap.size, 0, none⟩)) w.heap.size 166 tableCells) (Φ2 := (Is _ :: Is _ :: Is _ :: Is _ :: Is _ :: Is _ :: Is _ :: Is _ :: Is _ :: Is _ :: Is _ :: [])) (hm := by kernel_rfl) (hE := by kernel_rfl) (hD := by kernel_rfl) (hsize := by kernel_rfl)
  case hop =>
    refine ⟨?_, ?_, ?_, ?_, ?_, ?_, ?_, ?_, ?_, ?_, ?_, ?_, trivial⟩
    · intro a' w' hs hp he
      have hp : Pu _ w' := hp
      have e3 := hs 3 (by kernel_rfl)
      try simp [Is, Region.binds] at he
      exact op_callB rfl (wanted_none rfl) (by first | (go_simp; done) | (go_simp; rfl)) ((table_made w.heap.size _ w' (ht1.pu hp)).mono (by rintro e w2 ⟨rfl, hb, ht⟩; exact ⟨_, rfl, ⟨rfl, ht⟩, hb⟩))
    · intro a' w' hs hp he
      have hp : But w.heap.size _ w' := hp
      have e5 := hs 5 (by kernel_rfl)
      try simp [Is, Region.binds] at he
      exact op_val rfl (wanted_none rfl) (by first | (go_simp; done) | (go_simp; rfl) | (simp [execOp, Act.eval, go_sem, *]; done) | (simp [execOp, Act.eval, go_sem, *]; rfl)) rfl (Pu.refl _)
    · intro a' w' hs hp he
      have hp : But w.heap.size _ w' := hp
      try simp [Is, Region.binds] at he
      exact op_callP (rep 0 z w' (by omega) (by omega)) rfl (wanted_none rfl) (by first | (go_simp; done) | (go_simp; rfl)) (fun _ => rfl)
    · intro a' w' hs hp he
      have hp : But w.heap.size _ w' := hp
      try simp [Is, Region.binds] at he
      exact op_val rfl (wanted_none rfl) (by first | (go_simp; done) | (go_simp; rfl) | (simp [execOp, Act.eval, go_sem, *]; done) | (simp [execOp, Act.eval, go_sem, *]; rfl)) rfl (Pu.refl _)
    · intro a' w' hs hp he
      have hp : But w.heap.size _ w' := hp
      have e0 := hs 0 (by kernel_rfl)
      try simp [Is, Region.binds] at he
      exact op_val rfl (wanted_none rfl) (by first | (go_simp; done) | (go_simp; rfl) | (simp [execOp, Act.eval, go_sem, *]; done) | (simp [execOp, Act.eval, go_sem, *]; rfl)) rfl (Pu.refl _)
    · intro a' w' hs hp he
      have hp : But w.heap.size _ w' := hp
      try simp [Is, Region.binds] at he
      exact op_val rfl (wanted_none rfl) (by first | (go_simp; done) | (go_simp; rfl) | (simp [execOp, Act.eval, go_sem, *]; done) | (simp [execOp, Act.eval, go_sem, *]; rfl)) rfl (Pu.refl _)
    · intro a' w' hs hp he
      have hp : But w.heap.size _ w' := hp
      try simp [Is, Region.binds] at he
      exact op_val rfl (wanted_none rfl) (by first | (go_simp; done) | (go_simp; rfl) | (simp [execOp, Act.eval, go_sem, *]; done) | (simp [execOp, Act.eval, go_sem, *]; rfl)) rfl (Pu.refl _)
    · intro a' w' hs hp he
      have hp : But w.heap.size _ w' := hp
      try simp [Is, Region.binds] at he
      have c := HX.out.cell (hp.row hd1 (by omega)); exact op_val rfl (wanted_none rfl) (by first | (go_simp; done) | (go_simp; rfl)) rfl (Pu.refl _)
    · intro a' w' hs hp he
      have hp : But w.heap.size _ w' := hp
      try simp [Is, Region.binds] at he
      exact op_val rfl (wanted_none rfl) (by first | (go_simp; done) | (go_simp; rfl) | (simp [execOp, Act.eval, go_sem, *]; done) | (simp [execOp, Act.eval, go_sem, *]; rfl)) rfl (Pu.refl _)
    · intro a' w' hs hp he
      have hp : But w.heap.size _ w' := hp
      try simp [Is, Region.binds] at he
      exact op_val rfl (wanted_none rfl) (by first | (go_simp; done) | (go_simp; rfl) | (simp [execOp, Act.eval, go_sem, *]; done) | (simp [execOp, Act.eval, go_sem, *]; rfl)) rfl (Pu.refl _)
    · intro a' w' hs hp he
      have hp : But w.heap.size _ w' := hp
      try simp [Is, Region.binds] at he
      exact op_callP (putBig ((l.length : Int) * 8) 8 w' (by omega) (by omega) (by omega)) rfl (wanted_none rfl) (by first | (go_simp; done) | (go_simp; rfl)) (fun _ => rfl)
    · intro a' w' hs hp he
      have hp : But w.heap.size _ w' := hp
      try simp [Is, Region.binds] at he
      exact op_val rfl (wanted_none rfl) (by first | (go_simp; done) | (go_simp; rfl) | (simp [execOp, Act.eval, go_sem, *]; done) | (simp [execOp, Act.eval, go_sem, *]; rfl)) rfl (Pu.refl _)
  case hend =>
    intro a' w' hdef hsz hs hp hall
    obtain ⟨r0, r1, r2, r3, r4, r5, r6, r7, r8, r9, r10, r11, -⟩ := hall
    obtain ⟨rv0, row0⟩ := r0
    have hA := agree_done (agree_step (agree_step (agree_step (agree_step (agree_step (agree_step (agree_step (agree_step (agree_step (agree_step (agree_step (agree_step (agree_initL [21, 22, 23, 24, 25, 26, 27, 28, 29, 30, 31, 32] hsz hs (by kernel_rfl)) rv0) r1) r2) r3) r4) r5) r6) r7) r8) r9) r10) r11)
    have ha := act_of hA hdef
    rw [ha]
    clear ha hA hs hsz hdef r1 r2 r3 r4 r5 r6 r7 r8 r9 r10 r11 rv0
    (try simp only [List.setIfInBounds_toArray])
    (try dsimp only [List.set_cons_zero, List.set_cons_succ])
    (try simp only [Exit.then])
    refine op_callK rfl (wanted_none rfl) (by first | (go_simp; done) | (go_simp; rfl)) ((HADD.out w' hp row0).mono ?_); rintro e w2 ⟨rfl, hb2, hr2⟩; refine ⟨_, rfl, ?_⟩
    (try simp only [Exit.inBlock, Exit.then])
    have hp2 : Below w.heap.size w w2 := But.below (But.below hp1 hp (Nat.le_refl _) hp1.size) hb2 (by omega) (Nat.le_trans hp1.size hp.size)
    have hs2 : w.heap.size + 2 ≤ w2.heap.size := by have := hr2.lt; omega
    obtain ⟨m, hm⟩ : ∃ m, m = l ++ shaPad l.length := ⟨_, rfl⟩
    rw [← hm] at hr2
    have hsha : sha l = (wordsOf m).l.flatMap (fun w => putB w.toNat 4) := by rw [hm]; rfl
    obtain ⟨x, hx⟩ : ∃ x, x = wordsOf m := ⟨_, rfl⟩
    rw [← hx] at hsha hr2
    obtain ⟨ws, hws⟩ : ∃ v, v = vs x.l := ⟨_, rfl⟩
    rw [← hws] at hr2
    have hws8 : ws.length = 8 := by rw [hws]; rfl
    have hdw := dcells_words true ws hws8 (restOf m) (m.length : Int)
    have hdl := dcells_length true ws hws8 (restOf m) (m.length : Int)
    have HSHA := Lib.hid hsha
    have HWS := Lib.hid hws
    clear hm hx hsha hws hp hd1 hc1 ht1 hx1 hch1 hp1 row0 hb2
    go_wp2_with (first
      | (refine wpList_load_part rfl 148 (.tmp 34) rfl (w.heap.size + 1) 1 8 (by rfl) (hr2.alloc _) Tryz.underlying148 rfl hi8 (by omega) ?_; rw [hdw]))
    have hbd : Bld (w2.alloc (.cells #[.pointer none, .slice none 0 0] 158)) w2.heap.size [] := Bld.new _ _ _ _ rfl rfl rfl
    have hbel : Below w.heap.size w (w2.alloc (.cells #[.pointer none, .slice none 0 0] 158)) := hp2.alloc (by omega) _
    clear hr2 hp2 hd hdw hdl
    go_loopw [36] (fun i wr => ∃ j : Nat, j ≤ 8 ∧ i = .int .i64 (j : Int) ∧ Bld wr w2.heap.size ((x.l.take j).flatMap fun w => putB w.toNat 4) ∧ Below w.heap.size w wr) (fun i _ => 8 - (intOf i).toNat)
    case atStart => exact ⟨0, by omega, rfl, hbd, hbel⟩
    case round =>
      clear hbd hbel
      obtain ⟨j, hj, rfl, hbd, hbel⟩ := hrel
      by_cases hlt : j < 8
      · have hst := sha_take x j hlt
        obtain ⟨y, hy⟩ : ∃ y, y = x.l.getD j 0 := ⟨_, rfl⟩
        rw [← hy] at hst
        have hget : ws[j]? = some (V y) := by rw [HWS.out, hy]; exact vs_get _ _ hlt
        obtain ⟨acc, hacc⟩ : ∃ a, a = ((x.l.take j).flatMap fun w => putB w.toNat 4) := ⟨_, rfl⟩
        have hal : acc.length = 4 * j := by rw [hacc, flat4, List.length_take, show x.l.length = 8 from rfl]; omega
        rw [← hacc] at hst hbd
        have hwy : IntKind.u64.wrap (wd y) = wd y := wrap64_wd y
        have hwn := wd_nonneg y
        have hw4 : (putB (wd y).toNat 4).length = 4 := putB_length _ _
        have HST := Lib.hid hst
        have HACC := Lib.hid hacc
        have h0j : (0 : Int) ≤ j := by omega
        have h8j : (j : Int) < 8 := by omega
        have hix := fun w => run_index_agg (P := Tryz.prog) 148 113 8 ws .i64 j (V y) w Tryz.underlying148 hlt (by kernel_rfl) (by kernel_rfl) hget
        clear hst hacc hy hget
        go_wp2_with (first
          | (go_at_call 108; refine (putBig (wd y) 4 _ hwn (by omega) (by omega)).mono ?_; rintro e w3 ⟨rfl, hp3⟩; replace hbd := hbd.pu hp3; replace hbel := hbel.trans (Below.mono hp3 hbel.size))
          | (go_at_call 101; refine (write w2.heap.size acc (putB (wd y).toNat 4) _ hbd (by omega)).mono ?_; rintro e w4 ⟨rfl, hbd4, hp4⟩))
        go_roundw
        case rel =>
          refine ⟨j + 1, by omega, by go_num, ?_, hbel.trans (Below.mono hp4 (by omega))⟩
          rw [HST.out]
          have : (wd y).toNat = y.toNat := wd_toNat y
          rw [← this]; exact hbd4
        case measure => simp [intOf]; omega
      · obtain rfl : j = 8 := by omega
        rw [show x.l.take 8 = x.l from rfl] at hbd
        obtain ⟨acc, hacc⟩ : ∃ a, a = (x.l.flatMap fun w => putB w.toNat 4) := ⟨_, rfl⟩
        rw [← hacc] at hbd
        have HACC := Lib.hid hacc
        clear hacc
        go_wp2_with (go_at_call 103; refine (string w2.heap.size acc _ hbd).mono ?_; rintro e w4 ⟨rfl, hp4⟩)
        go_ret
        exact ⟨by rw [HSHA.out, ← HACC.out]; rfl, hbel.trans (Below.mono hp4 (by omega))⟩
end Go.Proofs.YtlbdbmnkjljohaaGreat
set_option linter.unusedSimpArgs false
set_option linter.unusedVariables false
namespace Go.Proofs.YtlbdbmnkjljohaaGreat
open Go.RowKit Go.Esc
set_option maxRecDepth 100000 in
set_option maxHeartbeats 1600000 in
theorem sum (l : Bs) (hl : l.length ≤ 900000) (w : World) :
    Calls Tryz.prog 74 #[S l] w fun e w' => e = .returned (S (sha l)) ∧ Pu w w' := by
  have hd0 : Dig (w.alloc (.cells (dcells false zero8 [] 0).toArray 150)) w.heap.size [] := Dig.new w _
  have HD0 := Lib.hid hd0
  clear hd0
  go_enter Tryz.func74, Tryz.ntmps74
  go_wp2_with (first
    | (go_at_call 92; refine (digestAdd w.heap.size [] l (by simp; omega) _ HD0.out).mono ?_; rintro e w1 ⟨rfl, hb1, hd1⟩; rw [List.nil_append] at hd1)
    | (go_at_call 93; refine (digestSum w.heap.size l hl _ hd1).mono ?_; rintro e w2 ⟨rfl, hp2⟩))
  go_ret
  exact ⟨rfl, (But.below ((Pu.refl w).alloc _) hb1 (Nat.le_refl _) (by simp)).trans (Below.mono hp2 (by have := hb1.size; simp at this; omega))⟩
theorem digestSum_nil (w : World) :
    Calls Tryz.prog 93 #[.pointer none] w fun e w' => e = .returned (S []) ∧ w' = w := by
  go_enter Tryz.func93, Tryz.ntmps93
  go_wp2_with fail
  go_ret
  exact ⟨rfl, rfl⟩
end Go.Proofs.YtlbdbmnkjljohaaGreat
set_option linter.unusedSimpArgs false
set_option linter.unusedVariables false
namespace Go.Esc
open Go Go.RowKit
def keyL (key : Bs) : Bs := let k := if 64 < key.length then sha key else key; k ++ List.replicate (64 - k.length) 0
def macL (key b : Bs) : Bs := sha (xorL (keyL key) (List.replicate 64 0x5c) ++ sha (xorL (keyL key) (List.replicate 64 0x36) ++ b))
end Go.Esc
namespace Go.Proofs.YtlbdbmnkjljohaaGreat
open Go.RowKit Go.Esc
theorem sha_len (l : Bs) : (sha l).length = 32 := by rw [sha_words, flat4]; rfl
theorem keyL_length (key : Bs) : (keyL key).length = 64 := by
  simp only [keyL]
  split
  · rw [List.length_append, sha_len, List.length_replicate]
  · simp; omega
theorem macL_length (key b : Bs) : (macL key b).length = 32 := sha_len _
theorem xorL_length64 (a b : Bs) (ha : a.length = 64) (hb : b.length = 64) : (xorL a b).length = 64 := by rw [xorL_length]; omega
set_option maxRecDepth 100000 in
set_option maxHeartbeats 1600000 in
theorem macOf (key b : Bs) (h : key.length ≤ 100000) (h2 : b.length ≤ 800000) (w : World) :
    Calls Tryz.prog 69 #[S key, S b] w fun e w' => e = .returned (S (macL key b)) ∧ Pu w w' := by
  obtain ⟨k, hk⟩ : ∃ k, k = (if 64 < key.length then sha key else key) := ⟨_, rfl⟩
  have hkl : k.length ≤ 64 := by
    rw [hk]; split
    · rw [sha_len]; omega
    · omega
  obtain ⟨z, hz⟩ : ∃ z, z = 64 - k.length := ⟨_, rfl⟩
  obtain ⟨k2, hk2⟩ : ∃ k2, k2 = k ++ List.replicate z 0 := ⟨_, rfl⟩
  have hk2l : k2.length = 64 := by rw [hk2]; simp; omega
  have hk2k : k2 = keyL key := by rw [hk2, keyL, hz, hk]
  obtain ⟨xi, hxi⟩ : ∃ x, x = xorL k2 (List.replicate 64 54) := ⟨_, rfl⟩
  obtain ⟨xo, hxo⟩ : ∃ x, x = xorL k2 (List.replicate 64 92) := ⟨_, rfl⟩
  have hxil : xi.length = 64 := by rw [hxi]; exact xorL_length64 _ _ hk2l (by simp)
  have hxol : xo.length = 64 := by rw [hxo]; exact xorL_length64 _ _ hk2l (by simp)
  obtain ⟨si, hsi⟩ : ∃ x, x = sha (xi ++ b) := ⟨_, rfl⟩
  have hsil : si.length = 32 := by rw [hsi]; exact sha_len _
  obtain ⟨so, hso⟩ : ∃ x, x = sha (xo ++ si) := ⟨_, rfl⟩
  have hfin : macL key b = so := by rw [macL, ← hk2k, ← hxi, ← hxo, ← hsi, ← hso]
  have hX1 := fun w => xor k2 (List.replicate 64 54) (.inl (by omega)) w
  have hX2 := fun w => xor k2 (List.replicate 64 92) (.inl (by omega)) w
  have hS1 := fun w => sum (xi ++ b) (by simp; omega) w
  have hS2 := fun w => sum (xo ++ si) (by simp; omega) w
  rw [← hxi] at hX1
  rw [← hxo] at hX2
  rw [← hsi] at hS1
  rw [← hso] at hS2
  have hR1 := fun w => rep 54 64 w (by decide) (by decide)
  have hR2 := fun w => rep 92 64 w (by decide) (by decide)
  have hR0 := fun w => rep 0 (z : Int) w (by omega) (by omega)
  rw [show (z : Int).toNat = z from rfl] at hR0
  rw [show (64 : Int).toNat = 64 from rfl] at hR1 hR2
  obtain ⟨r1, hr1⟩ : ∃ r, r = List.replicate 64 (54 : UInt8) := ⟨_, rfl⟩
  obtain ⟨r2, hr2⟩ : ∃ r, r = List.replicate 64 (92 : UInt8) := ⟨_, rfl⟩
  rw [← hr1] at hX1 hR1
  rw [← hr2] at hX2 hR2
  have c1 : ¬ (9223372036854775807 < xi.length + b.length) := by omega
  have c2 : ¬ (9223372036854775807 < xo.length + si.length) := by omega
  have c3 : ¬ (9223372036854775807 < k.length + z) := by omega
  have c4 : (64 : Int) - k.length = z := by omega
  have c5 : IntKind.i64.wrap (z : Int) = z := by rw [IntKind.wrap_i64]; omega
  have hcat : k ++ List.replicate z 0 = k2 := hk2.symm
  have HX1 := Lib.hid hX1
  have HX2 := Lib.hid hX2
  have HS1 := Lib.hid hS1
  have HS2 := Lib.hid hS2
  have HR0 := Lib.hid hR0
  have HR1 := Lib.hid hR1
  have HR2 := Lib.hid hR2
  have HF := Lib.hid hfin
  clear hX1 hX2 hS1 hS2 hR0 hR1 hR2 hfin hz hk2 hk2k hxi hxo hsi hso hr1 hr2
  by_cases h64 : 64 < key.length
  · have h64' : (64 : Int) < key.length := by omega
    have hks : k = sha key := by rw [hk, if_pos h64]
    have hSK := fun w => sum key (by omega) w
    rw [← hks] at hSK
    have HSK := Lib.hid hSK
    clear hk hks hSK
    go_enter Tryz.func69, Tryz.ntmps69
    go_wp2_with (first
      | (go_at_call 74; first
         | (with_reducible refine (HS1.out _).mono ?_
            rintro e w4 ⟨rfl, hp⟩; replace hpu := hpu.trans hp)
         | (with_reducible refine (HS2.out _).mono ?_
            rintro e w4 ⟨rfl, hp⟩; replace hpu := hpu.trans hp)
         | (with_reducible refine (HSK.out _).mono ?_
            rintro e w4 ⟨rfl, hp⟩; have hpu : Pu w w4 := hp))
      | (go_at_call 90; first
         | (refine (HR0.out _).mono ?_; rintro e w4 ⟨rfl, hp⟩; clear HR0; first | (replace hpu := hpu.trans hp) | have hpu : Pu w w4 := hp)
         | (refine (HR1.out _).mono ?_; rintro e w4 ⟨rfl, hp⟩; clear HR1; replace hpu := hpu.trans hp)
         | (refine (HR2.out _).mono ?_; rintro e w4 ⟨rfl, hp⟩; clear HR2; replace hpu := hpu.trans hp))
      | (go_at_call 72; first
         | (refine (HX1.out _).mono ?_; rintro e w4 ⟨rfl, hp⟩; clear HX1; replace hpu := hpu.trans hp)
         | (refine (HX2.out _).mono ?_; rintro e w4 ⟨rfl, hp⟩; clear HX2; replace hpu := hpu.trans hp)))
    go_ret
    exact ⟨by rw [HF.out]; rfl, hpu⟩
  · have h64' : decide ((64 : Int) < key.length) = false := by simp; omega
    obtain rfl : k = key := by rw [hk, if_neg h64]
    clear hk
    go_enter Tryz.func69, Tryz.ntmps69
    go_wp2_with (first
      | (go_at_call 74; first
         | (with_reducible refine (HS1.out _).mono ?_
            rintro e w4 ⟨rfl, hp⟩; replace hpu := hpu.trans hp)
         | (with_reducible refine (HS2.out _).mono ?_
            rintro e w4 ⟨rfl, hp⟩; replace hpu := hpu.trans hp)
         | (with_reducible refine (HSK.out _).mono ?_
            rintro e w4 ⟨rfl, hp⟩; have hpu : Pu w w4 := hp))
      | (go_at_call 90; first
         | (refine (HR0.out _).mono ?_; rintro e w4 ⟨rfl, hp⟩; clear HR0; first | (replace hpu := hpu.trans hp) | have hpu : Pu w w4 := hp)
         | (refine (HR1.out _).mono ?_; rintro e w4 ⟨rfl, hp⟩; clear HR1; replace hpu := hpu.trans hp)
         | (refine (HR2.out _).mono ?_; rintro e w4 ⟨rfl, hp⟩; clear HR2; replace hpu := hpu.trans hp))
      | (go_at_call 72; first
         | (refine (HX1.out _).mono ?_; rintro e w4 ⟨rfl, hp⟩; clear HX1; replace hpu := hpu.trans hp)
         | (refine (HX2.out _).mono ?_; rintro e w4 ⟨rfl, hp⟩; clear HX2; replace hpu := hpu.trans hp)))
    go_ret
    exact ⟨by rw [HF.out]; rfl, hpu⟩
end Go.Proofs.YtlbdbmnkjljohaaGreat
namespace Go.Proofs.YtlbdbmnkjljohaaGreat
open Go.RowKit Go.Esc
def kindL (b : Bs) : Nat := if 1 ≤ (b.headD 0).toNat ∧ (b.headD 0).toNat ≤ 5 then (b.headD 0).toNat else 0
theorem kindL_nil : kindL [] = 0 := rfl
/-- What is in a letter of kind k of n bytes behind it. -/
def fixR (k n : Nat) (b : Bs) : Option Bs := if b.length = n + 1 ∧ (b.headD 0).toNat = k then some b.tail else none
theorem fixR_some {k n : Nat} {b x : Bs} (h : fixR k n b = some x) : b.length = n + 1 ∧ x.length = n ∧ b = UInt8.ofNat k :: x := by
  unfold fixR at h
  split at h
  · next hc =>
    obtain ⟨h1, h2⟩ := hc
    cases b with
    | nil => simp at h1
    | cons c r =>
      simp at h h2 h1
      subst h
      refine ⟨by simp [h1], h1, ?_⟩
      rw [← h2]; simp
  · cases h
theorem fixR_put (k n : Nat) (x : Bs) (hk : k < 256) (hx : x.length = n) : fixR k n (UInt8.ofNat k :: x) = some x := by
  unfold fixR
  rw [if_pos ⟨by simp [hx], by simp [Nat.mod_eq_of_lt hk]⟩]
  rfl
def optV (o : Option Bs) : Bs := o.getD []
/-- A name that may be. -/
def nameB (s : Bs) : Bool := s.all (fun c => decide (33 ≤ c.toNat) && decide (c.toNat ≤ 126)) && decide (1 ≤ s.length) && decide (s.length ≤ 20)
def userB (name secret : Bs) : Bool := nameB name && decide (secret.length = 32)
theorem nameB_len {s : Bs} (h : nameB s = true) : 1 ≤ s.length ∧ s.length ≤ 20 := by
  simp [nameB] at h; omega
def helloOk (u n : Bs) : Prop := n.length = 16 ∧ 1 ≤ u.length ∧ u.length ≤ 20
instance (u n : Bs) : Decidable (helloOk u n) := by unfold helloOk; infer_instance
def helloL (u n : Bs) : Bs := 1 :: UInt8.ofNat u.length :: (u ++ n)
def helloR (u n : Bs) : Option Bs := if helloOk u n then some (helloL u n) else none
theorem helloL_length (u n : Bs) : (helloL u n).length = 2 + u.length + n.length := by simp [helloL]; omega
/-- The hello of bytes. -/
def getHello (b : Bs) : Option (Bs × Bs) :=
  if 2 ≤ b.length ∧ (b.headD 0).toNat = 1 ∧ b.length = 18 + (b.getD 1 0).toNat ∧ 1 ≤ (b.getD 1 0).toNat ∧ (b.getD 1 0).toNat ≤ 20 then some ((b.drop 2).take (b.getD 1 0).toNat, b.drop (2 + (b.getD 1 0).toNat)) else none
theorem getHello_put {u n : Bs} (h : helloOk u n) : getHello (helloL u n) = some (u, n) := by
  obtain ⟨h1, h2, h3⟩ := h
  have e1 : ((helloL u n).getD 1 0).toNat = u.length := by
    show (UInt8.ofNat u.length).toNat = _
    simp; omega
  unfold getHello
  rw [e1, if_pos ⟨by rw [helloL_length]; omega, rfl, by rw [helloL_length]; omega, h2, h3⟩]
  simp [helloL, Nat.add_comm 2]
theorem getHello_some {b u n : Bs} (h : getHello b = some (u, n)) : helloOk u n ∧ b = helloL u n := by
  unfold getHello at h
  split at h
  · next hc =>
    obtain ⟨h1, h2, h3, h4, h5⟩ := hc
    match b, h1 with
    | c :: d :: r, _ =>
      simp at h h2 h3 h4 h5
      obtain ⟨hu, hn⟩ := h
      have hul : u.length = d.toNat := by rw [← hu]; simp; omega
      have hnl : n.length = 16 := by rw [← hn, Nat.add_comm 2]; simp; omega
      refine ⟨⟨hnl, by omega, by omega⟩, ?_⟩
      have e1 : c = 1 := by
        have : c.toNat = (1 : UInt8).toNat := h2
        exact UInt8.toNat_inj.1 this
      have e2 : d = UInt8.ofNat u.length := by rw [hul]; simp
      rw [Nat.add_comm 2] at hn
      simp at hn
      unfold helloL
      rw [← e2, e1, ← hu, ← hn, List.take_append_drop]
  · cases h
def proofW : Bs := [112, 114, 111, 111, 102]
def finishW : Bs := [102, 105, 110, 105, 115, 104]
def proofL (secret papers : Bs) : Bs := macL secret (proofW ++ papers)
def finishL (secret papers : Bs) : Bs := macL secret (finishW ++ papers)
def chalL (nonce : Bs) : Bs := 2 :: nonce
/-- Two results, the first in a cell. -/
theorem results_cell_slot {P : Program} {fn : Func} {p q : Tmp} {ty : TypeId} (h : fn.results = #[.cell p ty, .tmp q]) (tmps : Array Value) (g : Nat) {v u : Value} {w w1 : World}
    (hp : tmps.getD p undef = .pointer (some ⟨g, 0, none⟩)) (hq : tmps.getD q undef = u) (hl : (loadVar ty ⟨g, 0, none⟩).run P w = .ok v w1) :
    (results fn tmps).run P w = .ok (.tuple #[v, u]) w1 := by
  have hp' : tmps[p]?.getD undef = .pointer (some ⟨g, 0, none⟩) := by simpa using hp
  have hq' : tmps[q]?.getD undef = u := by simpa using hq
  simp [results, h, hp', hq', asAddr, hl]
theorem two_byte_eq {P : Program} (w : World) (x y : Nat) (hx : x < 256) (h : y < 256) (s d e : TypeId) (hs : P.underlying s = some (.slice e)) (he : P.underlying e = some (.int .u8)) (hd : P.underlying d = some .string) :
    (convert s d (.slice (some ⟨w.heap.size, 0, none⟩) 2 2)).run P (w.alloc (.cells #[.int .u8 (x : Int), .int .u8 (y : Int)] e)) = .ok (S [UInt8.ofNat x, UInt8.ofNat y]) (w.alloc (.cells #[.int .u8 (x : Int), .int .u8 (y : Int)] e)) := by
  refine Row.conv (e := e) s d ?_ rfl hs he hd
  have := Row.new w #[.int .u8 (x : Int), .int .u8 (y : Int)] e
  have e2 : cells [UInt8.ofNat x, UInt8.ofNat y] = [.int .u8 (x : Int), .int .u8 (y : Int)] := by
    simp [cells, B]; omega
  rw [e2]; exact this
theorem wpList_load_row {P : Program} {w : World} {ops : Array Oper} {rest : List Oper} {o : Oper} {a : Act} {Q : Exit → Act → World → Prop} (hgd : o.guard = none) (ty : TypeId) (x : Operand) (ho : o.op = .load ty x)
    (g : Nat) (xs : List Value) (hx : a.eval x = .pointer (some ⟨g, 0, none⟩)) {e : TypeId} (hr : Row w g e xs) {d : TypeDesc}
    (hu : P.underlying ty = some d) (hd : (match d with | .struct _ | .array _ _ => true | _ => false) = true) (hi : (P.info? ty).map (·.size) = some xs.length)
    (h : wpList P ops Q rest (a.put o.dst (.agg xs.toArray)) w) : wpList P ops Q (o :: rest) a w := by
  refine wpList_load_part hgd ty x ho g 0 xs.length hx hr hu hd hi (by omega) ?_
  simpa using h
theorem run_str_lh {P : Program} (t : TypeId) (ht : P.underlying t = some .string) (b : Bs) (i j : Nat) (hi : i ≤ j) (hj : j ≤ b.length) (w : World) :
    (Instr.slice t (S b) (some (.int .i64 (i : Int))) (some (.int .i64 (j : Int))) none).run P w = .ok (S ((b.take j).drop i)) w := by
  have h1 : (i : Int) ≤ j := by omega
  have h2 : (j : Int) ≤ b.length := by omega
  simp [Instr.slice, run_underlying ht, Instr.sliceBounds, run_sliceBound, S, bs_size, bs_extract, hi, hj]
theorem run_str_l {P : Program} (t : TypeId) (ht : P.underlying t = some .string) (b : Bs) (i : Nat) (hi : i ≤ b.length) (w : World) :
    (Instr.slice t (S b) (some (.int .i64 (i : Int))) none none).run P w = .ok (S (b.drop i)) w := by
  simp [Instr.slice, run_underlying ht, Instr.sliceBounds, run_sliceBound, S, bs_size, bs_extract, hi]
end Go.Proofs.YtlbdbmnkjljohaaGreat
namespace Go.Esc
open Go Go.RowKit
theorem one_byte_eq {P : Program} (w : World) (x : Nat) (h : x < 256) (s d e : TypeId) (hs : P.underlying s = some (.slice e)) (he : P.underlying e = some (.int .u8)) (hd : P.underlying d = some .string) :
    (convert s d (.slice (some ⟨w.heap.size, 0, none⟩) 1 1)).run P (w.alloc (.cells #[.int .u8 (x : Int)] e)) = .ok (S [UInt8.ofNat x]) (w.alloc (.cells #[.int .u8 (x : Int)] e)) := by
  refine Row.conv (e := e) s d ?_ rfl hs he hd
  have := Row.new w #[.int .u8 (x : Int)] e
  have e2 : cells [UInt8.ofNat x] = [.int .u8 (x : Int)] := by
    simp [cells, B]; omega
  rw [e2]; exact this
end Go.Esc
set_option linter.unusedSimpArgs false
set_option linter.unusedVariables false
namespace Go.Proofs.YtlbdbmnkjljohaaGreat
open Go.RowKit Go.Esc
set_option maxRecDepth 100000 in
theorem kind (b : Bs) (w : World) : Calls Tryz.prog 89 #[S b] w fun e w' => e = .returned (.int .i64 (kindL b : Int)) ∧ w' = w := by
  cases b with
  | nil =>
    have h0 : (bs ([] : Bs) == ⟨#[]⟩) = true := rfl
    go_enter Tryz.func89, Tryz.ntmps89
    go_wp2_with fail
    go_ret
    exact ⟨rfl, rfl⟩
  | cons c r =>
    have h0 : ¬ (bs (c :: r) = (⟨#[]⟩ : ByteArray)) := fun h => by have := congrArg ByteArray.size h; rw [bs_size] at this; exact Nat.succ_ne_zero _ this
    have h1 : (0 : Int) < (r.length : Int) + 1 := by omega
    have hlt := c.toNat_lt
    by_cases hl : c.toNat < 1
    · have k1 : (c.toNat : Int) < 1 := by omega
      have e9 : kindL (c :: r) = 0 := by unfold kindL; rw [if_neg (by simp; omega)]
      rw [e9]
      go_enter Tryz.func89, Tryz.ntmps89
      go_wp2_with fail
      go_ret
      exact ⟨rfl, rfl⟩
    · have k1 : ¬ (c.toNat : Int) < 1 := by omega
      by_cases hg : 5 < c.toNat
      · have k2 : (5 : Int) < c.toNat := by omega
        have e9 : kindL (c :: r) = 0 := by unfold kindL; rw [if_neg (by simp; omega)]
        rw [e9]
        go_enter Tryz.func89, Tryz.ntmps89
        go_wp2_with fail
        go_ret
        exact ⟨rfl, rfl⟩
      · have k2 : ¬ (5 : Int) < c.toNat := by omega
        have e9 : kindL (c :: r) = c.toNat := by unfold kindL; rw [if_pos (by simp; omega)]; rfl
        have k3 : IntKind.i64.wrap (c.toNat : Int) = c.toNat := by rw [IntKind.wrap_i64]; omega
        rw [e9]
        go_enter Tryz.func89, Tryz.ntmps89
        go_wp2_with fail
        go_ret
        exact ⟨rfl, rfl⟩
set_option maxRecDepth 100000 in
theorem put (k : Nat) (hk : k < 256) (b : Bs) (lo hi : Int) (h1 : lo ≤ b.length) (h2 : (b.length : Int) ≤ hi) (hb : b.length ≤ 100000) (w : World) :
    Calls Tryz.prog 68 #[.int .i64 (k : Int), S b, .int .i64 lo, .int .i64 hi] w fun e w' => e = .returned (.tuple #[S (UInt8.ofNat k :: b), .bool true]) ∧ Pu w w' := by
  have k1 : ¬ (b.length : Int) < lo := by omega
  have k2 : ¬ hi < (b.length : Int) := by omega
  have hm : (k : Int) % 256 = k := by omega
  have hcv := one_byte_eq (P := Tryz.prog) w k hk 42 9 5 Tryz.underlying42 Tryz.underlying5 Tryz.underlying9
  obtain ⟨c, hc⟩ : ∃ c, c = UInt8.ofNat k := ⟨_, rfl⟩
  rw [← hc] at hcv ⊢
  have z1 : ¬ (9223372036854775807 < b.length + 1) := by omega
  have z2 : ¬ (9223372036854775807 < 1 + b.length) := by omega
  clear hc hb h1 h2
  go_enter Tryz.func68, Tryz.ntmps68
  go_wp2_with fail
  go_ret2
  exact ⟨rfl, (Pu.refl w).alloc _⟩
set_option maxRecDepth 100000 in
theorem get (k n : Nat) (hk : 1 ≤ k ∧ k ≤ 5) (hn : n ≤ 1000) (b : Bs) (hb : b.length ≤ 100000) (w : World) :
    Calls Tryz.prog 66 #[.int .i64 (k : Int), S b, .int .i64 (n : Int), .int .i64 (n : Int)] w fun e w' => e = .returned (.tuple #[S (optV (fixR k n b)), .bool (fixR k n b).isSome]) ∧ Pu w w' := by
  have hkd := fun w => kind b w
  have HK := Lib.hid hkd
  clear hkd
  by_cases h1 : kindL b = k
  · have k1 : ((kindL b : Int)) = k := by omega
    have hbl : 1 ≤ b.length := by
      cases b with
      | nil => rw [kindL_nil] at h1; omega
      | cons c r => simp
    have kw : IntKind.i64.wrap ((b.length : Int) - 1) = (b.length : Int) - 1 := by rw [IntKind.wrap_i64]; omega
    have k4 : (1 : Int) ≤ b.length := by omega
    have hcl := fun w => clone b.tail (by simp; omega) w
    have HC := Lib.hid hcl
    have hkk : (b.headD 0).toNat = k := by
      unfold kindL at h1
      split at h1
      · exact h1
      · omega
    clear hcl
    by_cases h2 : b.length < n + 1
    · have e9 : fixR k n b = none := by unfold fixR; rw [if_neg (by omega)]
      have k2 : (b.length : Int) - 1 < n := by omega
      rw [e9]
      rw [h1] at HK
      clear e9 h1 hbl hkk
      go_enter Tryz.func66, Tryz.ntmps66
      go_wp2_with (go_at_call 89; refine (HK.out _).mono ?_; rintro e w1 ⟨rfl, rfl⟩)
      go_ret2
      exact ⟨rfl, Pu.refl _⟩
    · have k2 : ¬ (b.length : Int) - 1 < n := by omega
      by_cases h3 : n + 1 < b.length
      · have e9 : fixR k n b = none := by unfold fixR; rw [if_neg (by omega)]
        have k3 : (n : Int) < (b.length : Int) - 1 := by omega
        rw [e9]
        rw [h1] at HK
        clear e9 h1 hbl hkk
        go_enter Tryz.func66, Tryz.ntmps66
        go_wp2_with (go_at_call 89; refine (HK.out _).mono ?_; rintro e w1 ⟨rfl, rfl⟩)
        go_ret2
        exact ⟨rfl, Pu.refl _⟩
      · have e9 : fixR k n b = some b.tail := by unfold fixR; rw [if_pos ⟨by omega, hkk⟩]
        have k3 : ¬ (n : Int) < (b.length : Int) - 1 := by omega
        rw [e9]
        rw [h1] at HK
        clear e9 h1 hbl hkk
        go_enter Tryz.func66, Tryz.ntmps66
        go_wp2_with (first
          | (go_at_call 89; refine (HK.out _).mono ?_; rintro e w1 ⟨rfl, rfl⟩)
          | (go_at_call 58; refine (HC.out _).mono ?_; rintro e w2 ⟨rfl, hp2⟩))
        go_ret2
        exact ⟨rfl, hp2⟩
  · have e9 : fixR k n b = none := by
      unfold fixR
      rw [if_neg]
      rintro ⟨_, h2⟩
      apply h1
      unfold kindL
      rw [if_pos (by omega)]
      exact h2
    have k1 : ¬ ((kindL b : Int)) = k := by omega
    rw [e9]
    obtain ⟨q, hq⟩ : ∃ q, q = kindL b := ⟨_, rfl⟩
    rw [← hq] at k1
    rw [← hq] at HK
    clear e9 h1 hq
    go_enter Tryz.func66, Tryz.ntmps66
    go_wp2_with (go_at_call 89; refine (HK.out _).mono ?_; rintro e w1 ⟨rfl, rfl⟩)
    go_ret2
    exact ⟨rfl, Pu.refl _⟩
set_option maxRecDepth 100000 in
theorem putChallenge (b : Bs) (hb : b.length = 16) (w : World) :
    Calls Tryz.prog 81 #[.agg #[S b]] w fun e w' => e = .returned (.tuple #[S (2 :: b), .bool true]) ∧ Pu w w' := by
  have hP := fun w => put 2 (by decide) b 16 16 (by omega) (by omega) (by omega) w
  have HP := Lib.hid hP
  have hp0 := (Pu.refl w).alloc (.cells #[S b] 94)
  clear hP
  go_enter Tryz.func81, Tryz.ntmps81
  go_wp2_with (go_at_call 68; refine (HP.out _).mono ?_; rintro e w1 ⟨rfl, hp1⟩)
  go_ret2
  exact ⟨rfl, hp0.trans hp1⟩
set_option maxRecDepth 100000 in
theorem putProof (b : Bs) (hb : b.length = 32) (w : World) :
    Calls Tryz.prog 48 #[.agg #[S b]] w fun e w' => e = .returned (.tuple #[S (3 :: b), .bool true]) ∧ Pu w w' := by
  have hP := fun w => put 3 (by decide) b 32 32 (by omega) (by omega) (by omega) w
  have HP := Lib.hid hP
  have hp0 := (Pu.refl w).alloc (.cells #[S b] 100)
  clear hP
  go_enter Tryz.func48, Tryz.ntmps48
  go_wp2_with (go_at_call 68; refine (HP.out _).mono ?_; rintro e w1 ⟨rfl, hp1⟩)
  go_ret2
  exact ⟨rfl, hp0.trans hp1⟩
set_option maxRecDepth 100000 in
theorem putFinish (b : Bs) (hb : b.length = 32) (w : World) :
    Calls Tryz.prog 87 #[.agg #[S b]] w fun e w' => e = .returned (.tuple #[S (4 :: b), .bool true]) ∧ Pu w w' := by
  have hP := fun w => put 4 (by decide) b 32 32 (by omega) (by omega) (by omega) w
  have HP := Lib.hid hP
  have hp0 := (Pu.refl w).alloc (.cells #[S b] 102)
  clear hP
  go_enter Tryz.func87, Tryz.ntmps87
  go_wp2_with (go_at_call 68; refine (HP.out _).mono ?_; rintro e w1 ⟨rfl, hp1⟩)
  go_ret2
  exact ⟨rfl, hp0.trans hp1⟩
set_option maxRecDepth 100000 in
theorem getChallenge (b : Bs) (hb : b.length ≤ 100000) (w : World) :
    Calls Tryz.prog 46 #[S b] w fun e w' => e = .returned (.tuple #[.agg #[S (optV (fixR 2 16 b))], .bool (fixR 2 16 b).isSome]) ∧ Pu w w' := by
  have hi : (Tryz.prog.info? 94).map (·.size) = some 1 := by kernel_rfl
  have hG := fun w => get 2 16 (by decide) (by decide) b hb w
  obtain ⟨o, ho⟩ : ∃ o, o = fixR 2 16 b := ⟨_, rfl⟩
  rw [← ho] at hG ⊢
  obtain ⟨x, hx⟩ : ∃ x, x = optV o := ⟨_, rfl⟩
  rw [← hx] at hG ⊢
  obtain ⟨y, hy⟩ : ∃ y, y = o.isSome := ⟨_, rfl⟩
  rw [← hy] at hG ⊢
  have HG := Lib.hid hG
  have hp0 := (Pu.refl w).alloc (.cells #[.string ⟨#[]⟩] 94)
  clear hG ho hx hy
  go_enter Tryz.func46, Tryz.ntmps46
  go_wp2_with (first
    | (go_at_call 66; refine (HG.out _).mono ?_; rintro e w1 ⟨rfl, hp1⟩)
    | (refine wpList_store_part rfl 94 (.tmp 2) (.tmp 12) rfl w.heap.size 0 [S x] (by rfl) (by rfl) ((Row.newAt w w.heap.size _ _ rfl rfl).pu hp1) hi (by simp) (by simp [Value.oneCell']) ?_; intro w4 hr4 hch4))
  rw [splice_all (by rfl)] at hr4
  have hrl := hr4.load (P := Tryz.prog) 94 0 1 Tryz.underlying94 rfl hi (by simp)
  (try simp only [Exit.inBlock, Exit.then])
  refine bodyPost_ret (results_cell_slot rfl _ _ rfl rfl hrl) rfl ?_
  exact ⟨rfl, hch4.below (hp0.trans hp1) (Nat.le_refl _)⟩
set_option maxRecDepth 100000 in
theorem getProof (b : Bs) (hb : b.length ≤ 100000) (w : World) :
    Calls Tryz.prog 82 #[S b] w fun e w' => e = .returned (.tuple #[.agg #[S (optV (fixR 3 32 b))], .bool (fixR 3 32 b).isSome]) ∧ Pu w w' := by
  have hi : (Tryz.prog.info? 100).map (·.size) = some 1 := by kernel_rfl
  have hG := fun w => get 3 32 (by decide) (by decide) b hb w
  obtain ⟨o, ho⟩ : ∃ o, o = fixR 3 32 b := ⟨_, rfl⟩
  rw [← ho] at hG ⊢
  obtain ⟨x, hx⟩ : ∃ x, x = optV o := ⟨_, rfl⟩
  rw [← hx] at hG ⊢
  obtain ⟨y, hy⟩ : ∃ y, y = o.isSome := ⟨_, rfl⟩
  rw [← hy] at hG ⊢
  have HG := Lib.hid hG
  have hp0 := (Pu.refl w).alloc (.cells #[.string ⟨#[]⟩] 100)
  clear hG ho hx hy
  go_enter Tryz.func82, Tryz.ntmps82
  go_wp2_with (first
    | (go_at_call 66; refine (HG.out _).mono ?_; rintro e w1 ⟨rfl, hp1⟩)
    | (refine wpList_store_part rfl 100 (.tmp 2) (.tmp 12) rfl w.heap.size 0 [S x] (by rfl) (by rfl) ((Row.newAt w w.heap.size _ _ rfl rfl).pu hp1) hi (by simp) (by simp [Value.oneCell']) ?_; intro w4 hr4 hch4))
  rw [splice_all (by rfl)] at hr4
  have hrl := hr4.load (P := Tryz.prog) 100 0 1 Tryz.underlying100 rfl hi (by simp)
  (try simp only [Exit.inBlock, Exit.then])
  refine bodyPost_ret (results_cell_slot rfl _ _ rfl rfl hrl) rfl ?_
  exact ⟨rfl, hch4.below (hp0.trans hp1) (Nat.le_refl _)⟩
set_option maxRecDepth 100000 in
theorem getFinish (b : Bs) (hb : b.length ≤ 100000) (w : World) :
    Calls Tryz.prog 52 #[S b] w fun e w' => e = .returned (.tuple #[.agg #[S (optV (fixR 4 32 b))], .bool (fixR 4 32 b).isSome]) ∧ Pu w w' := by
  have hi : (Tryz.prog.info? 102).map (·.size) = some 1 := by kernel_rfl
  have hG := fun w => get 4 32 (by decide) (by decide) b hb w
  obtain ⟨o, ho⟩ : ∃ o, o = fixR 4 32 b := ⟨_, rfl⟩
  rw [← ho] at hG ⊢
  obtain ⟨x, hx⟩ : ∃ x, x = optV o := ⟨_, rfl⟩
  rw [← hx] at hG ⊢
  obtain ⟨y, hy⟩ : ∃ y, y = o.isSome := ⟨_, rfl⟩
  rw [← hy] at hG ⊢
  have HG := Lib.hid hG
  have hp0 := (Pu.refl w).alloc (.cells #[.string ⟨#[]⟩] 102)
  clear hG ho hx hy
  go_enter Tryz.func52, Tryz.ntmps52
  go_wp2_with (first
    | (go_at_call 66; refine (HG.out _).mono ?_; rintro e w1 ⟨rfl, hp1⟩)
    | (refine wpList_store_part rfl 102 (.tmp 2) (.tmp 12) rfl w.heap.size 0 [S x] (by rfl) (by rfl) ((Row.newAt w w.heap.size _ _ rfl rfl).pu hp1) hi (by simp) (by simp [Value.oneCell']) ?_; intro w4 hr4 hch4))
  rw [splice_all (by rfl)] at hr4
  have hrl := hr4.load (P := Tryz.prog) 102 0 1 Tryz.underlying102 rfl hi (by simp)
  (try simp only [Exit.inBlock, Exit.then])
  refine bodyPost_ret (results_cell_slot rfl _ _ rfl rfl hrl) rfl ?_
  exact ⟨rfl, hch4.below (hp0.trans hp1) (Nat.le_refl _)⟩
end Go.Proofs.YtlbdbmnkjljohaaGreat
