/- octet.Xor, and the document's Xor and zeros. -/
import Derived.Test.YtdjbhbefghihcaaRefOctet
import Derived.Test.YtdjbhbefghihcaaRegionW
import Derived.Test.YtdjbhbefghihcaaUnhex
set_option linter.unusedSimpArgs false
set_option linter.unusedVariables false
namespace Go.Esc
open Go Go.RowKit
def xorL (a b : Bs) : Bs := List.zipWith (· ^^^ ·) a b
theorem xorL_length (a b : Bs) : (xorL a b).length = min a.length b.length := by simp [xorL]
def xorArr (z : Bs) (k : Nat) : Bs := z.take k ++ List.replicate (z.length - k) 0
theorem xorArr_length (z : Bs) (k : Nat) (h : k ≤ z.length) : (xorArr z k).length = z.length := by simp [xorArr]; omega
theorem xorArr_set (z : Bs) (k : Nat) (h : k < z.length) : (xorArr z k).set k z[k] = xorArr z (k+1) := by
  obtain ⟨j, hj⟩ : ∃ j, z.length - k = j + 1 := ⟨z.length - k - 1, by omega⟩
  rw [xorArr, xorArr, hj, show z.length - (k + 1) = j by omega, List.replicate_succ, List.set_append, List.take_succ_eq_append_getElem h]
  simp [Nat.min_eq_left (Nat.le_of_lt h)]
  rw [List.take_succ_eq_append_getElem h, List.append_assoc]; rfl
theorem xor_val (x y : UInt8) : Go.bits .xor .u8 (x.toNat : Int) (y.toNat : Int) = ((x ^^^ y).toNat : Int) := by
  rw [u8_xor_nat _ _ x.toNat_lt y.toNat_lt, UInt8.toNat_xor]
end Go.Esc
namespace Go.Proofs.Ytdjbhbefghihcaa
open Go.RowKit Go.Esc
set_option maxRecDepth 100000 in
set_option maxHeartbeats 1600000 in
theorem xor_of (a b : Bs) (n : Nat) (hab : (b.length = n ∧ n < a.length) ∨ (a.length = n ∧ n ≤ b.length)) (hn : n ≤ 1000000) (w : World) :
    Calls Try.prog 98 #[S a, S b] w fun e w' => e = .returned (S (xorL a b)) ∧ Pu w w' := by
  obtain ⟨i0, hi, hz0, hz1, hz2⟩ := info_parts infoB
  obtain ⟨z, hz⟩ : ∃ z, z = xorL a b := ⟨_, rfl⟩
  have hzl : z.length = n := by rw [hz, xorL_length]; omega
  have hzg : ∀ (k : Nat) (h : k < n) (h1 : k < a.length) (h2 : k < b.length), z[k]'(by omega) = a[k] ^^^ b[k] := by
    intro k h h1 h2; simp only [hz, xorL, List.getElem_zipWith]
  rw [← hz]
  have HZG := Lib.hid hzg
  clear hz hzg
  rcases hab with ⟨hbn, hlt⟩ | ⟨hbn, hlt⟩
  · have hlt' : (n : Int) < a.length := by omega
    go_enter Try.func98, Try.ntmps98
    go_wp2_with (at_make; refine wpList_make_full _ rfl _ _ 27 rfl w.heap.size 5 i0 (.int .u8 0) 1 Try.underlying27 hi hz0 hz1 _ _ _ _ n rfl rfl rfl rfl (by rw [hz2]; omega) (by unfold maxLen; omega) (Nat.le_refl _) ?_; intro w1 hown hgrow)
    go_loopw [15] (fun i wr => ∃ k : Nat, k ≤ n ∧ i = .int .i64 k ∧ wr.ownsRow w.heap.size 5 1 (.slice (some ⟨w.heap.size, 0, none⟩) n n) n (cells (xorArr z k)) ∧ Below w.heap.size w wr) (fun i _ => n - (intOf i).toNat)
    case atStart => exact ⟨0, Nat.zero_le _, rfl, by rw [madeZ] at hown; simpa [xorArr, hzl] using hown, (Below.refl _ _).grown hgrow (Nat.le_refl _) (by simp)⟩
    case round =>
      clear hown hgrow
      obtain ⟨k, hk, rfl, hown, hbel⟩ := hrel
      by_cases hkn : k < n
      · have ha1 : k < a.length := by omega
        have hb1 : k < b.length := by omega
        have hz1' : k < z.length := by omega
        obtain ⟨x, hx⟩ : ∃ x, a[k] = x := ⟨_, rfl⟩
        obtain ⟨y, hy⟩ : ∃ y, b[k] = y := ⟨_, rfl⟩
        obtain ⟨v, hv⟩ : ∃ v, z[k] = v := ⟨_, rfl⟩
        have hxy : Go.bits .xor .u8 (x.toNat : Int) (y.toNat : Int) = (v.toNat : Int) := by
          rw [xor_val, ← hv, HZG.out k hkn ha1 hb1, hx, hy]
        have hset := xorArr_set z k hz1'
        rw [hv] at hset
        have hal := xorArr_length z k (by omega)
        have HSET := Lib.hid hset
        have ha2 : (k : Int) < a.length := by omega
        have hb2 : (k : Int) < b.length := by omega
        have hk0 : (0 : Int) ≤ k := by omega
        have hkn' : (k : Int) < n := by omega
        clear hset hv
        go_wp2_with fail
        apply region_last (n := 10) (hn := by kernel_rfl) (hlast := rfl) (hU := by kernel_rfl) (Φs := (Is _ :: Is _ :: Is _ :: Is _ :: Is _ :: Is _ :: Is _ :: Is _ :: Is _ :: Is _ :: [])) (hm := by kernel_rfl) (hE := by kernel_rfl) (hD := by kernel_rfl) (hsize := by kernel_rfl)
        case hop =>
          refine ⟨?_, ?_, ?_, ?_, ?_, ?_, ?_, ?_, ?_, ?_, trivial⟩
          · intro a' w' hs hp he
            have e5 := hs 5 (by kernel_rfl)
            try simp [Is, Region.binds] at he
            exact op_val rfl (wanted_none rfl) (by first | (go_simp; done) | (go_simp; rfl) | (simp [execOp, Act.eval, go_sem, *]; done) | (simp [execOp, Act.eval, go_sem, *]; rfl)) rfl (Pu.refl _)
          · intro a' w' hs hp he
            have e6 := hs 6 (by kernel_rfl)
            try simp [Is, Region.binds] at he
            exact op_val rfl (wanted_none rfl) (by first | (go_simp; done) | (go_simp; rfl) | (simp [execOp, Act.eval, go_sem, *]; done) | (simp [execOp, Act.eval, go_sem, *]; rfl)) rfl (Pu.refl _)
          · intro a' w' hs hp he
            have e0 := hs 0 (by kernel_rfl)
            try simp [Is, Region.binds] at he
            exact op_val rfl (wanted_none rfl) (by first | (go_simp; done) | (go_simp; rfl) | (simp [execOp, Act.eval, go_sem, *]; done) | (simp [execOp, Act.eval, go_sem, *]; rfl)) rfl (Pu.refl _)
          · intro a' w' hs hp he
            have e6 := hs 6 (by kernel_rfl)
            try simp [Is, Region.binds] at he
            exact op_val rfl (wanted_none rfl) (by first | (go_simp; done) | (go_simp; rfl) | (simp [execOp, Act.eval, go_sem, *]; done) | (simp [execOp, Act.eval, go_sem, *]; rfl)) rfl (Pu.refl _)
          · intro a' w' hs hp he
            try simp [Is, Region.binds] at he
            exact op_val rfl (wanted_none rfl) (by first | (go_simp; done) | (go_simp; rfl) | (simp [execOp, Act.eval, go_sem, *]; done) | (simp [execOp, Act.eval, go_sem, *]; rfl)) rfl (Pu.refl _)
          · intro a' w' hs hp he
            have e1 := hs 1 (by kernel_rfl)
            try simp [Is, Region.binds] at he
            exact op_val rfl (wanted_none rfl) (by first | (go_simp; done) | (go_simp; rfl) | (simp [execOp, Act.eval, go_sem, *]; done) | (simp [execOp, Act.eval, go_sem, *]; rfl)) rfl (Pu.refl _)
          · intro a' w' hs hp he
            have e6 := hs 6 (by kernel_rfl)
            try simp [Is, Region.binds] at he
            exact op_val rfl (wanted_none rfl) (by first | (go_simp; done) | (go_simp; rfl) | (simp [execOp, Act.eval, go_sem, *]; done) | (simp [execOp, Act.eval, go_sem, *]; rfl)) rfl (Pu.refl _)
          · intro a' w' hs hp he
            try simp [Is, Region.binds] at he
            exact op_val rfl (wanted_none rfl) (by first | (go_simp; done) | (go_simp; rfl) | (simp [execOp, Act.eval, go_sem, *]; done) | (simp [execOp, Act.eval, go_sem, *]; rfl)) rfl (Pu.refl _)
          · intro a' w' hs hp he
            try simp [Is, Region.binds] at he
            exact op_val rfl (wanted_none rfl) (by first | (go_simp; done) | (go_simp; rfl) | (simp [execOp, Act.eval, go_sem, *]; done) | (simp [execOp, Act.eval, go_sem, *]; rfl)) rfl (Pu.refl _)
          · intro a' w' hs hp he
            try simp [Is, Region.binds] at he
            exact op_val rfl (wanted_none rfl) (by first | (go_simp; done) | (go_simp; rfl) | (simp [execOp, Act.eval, go_sem, *]; done) | (simp [execOp, Act.eval, go_sem, *]; rfl)) rfl (Pu.refl _)
        case hend =>
          intro a' w' hdef hsz hs hp hall
          obtain ⟨r0, r1, r2, r3, r4, r5, r6, r7, r8, r9, -⟩ := hall
          have hA := agree_done (agree_step (agree_step (agree_step (agree_step (agree_step (agree_step (agree_step (agree_step (agree_step (agree_step (agree_init [18, 19, 20, 21, 22, 23, 24, 25, 26, 27] hsz hs (by kernel_rfl)) r0) r1) r2) r3) r4) r5) r6) r7) r8) r9)
          have ha := act_of hA hdef
          rw [ha]
          clear ha hA hs hsz hdef r0 r1 r2 r3 r4 r5 r6 r7 r8 r9 
          (try simp only [List.setIfInBounds_toArray])
          (try dsimp only [List.set_cons_zero, List.set_cons_succ])
          (try simp only [Exit.then])
          have hown' := own_pu hown hp; obtain ⟨v0, hcl⟩ : ∃ v0, w'.cell? ⟨w.heap.size, k, none⟩ = some v0 := (by have hcl := hown'.cellAt k (by omega); rw [cells_get _ _ (by omega)] at hcl; exact ⟨_, hcl⟩); have hf := hown'.frozenAt k; have hst := hown'.stored k (.int .u8 (v.toNat : Int)); rw [cells_set, HSET.out] at hst
          refine op_done rfl (wanted_none rfl) (by first | (go_simp; done) | (go_simp; rfl)) ?_
          (try simp only [Exit.inBlock, Exit.then])
          go_wp2_with fail
          go_roundw
          case rel => exact ⟨k + 1, by omega, by go_num, hst.1, (hbel.trans (Below.mono hp hbel.size)).grown hst.2 (by have := hbel.size; have := hp.size; omega) (by simp)⟩
          case measure => simp [intOf]; omega
      · obtain rfl : k = n := by omega
        have he : xorArr z k = z := by simp [xorArr, ← hzl]
        rw [he] at hown
        have hcv := own_conv (P := Try.prog) 27 9 hown Try.underlying27 Try.underlying5 Try.underlying9
        clear he
        go_wp2_with fail
        go_ret
        exact ⟨rfl, hbel⟩
  · have hlt' : (n : Int) ≤ b.length := by omega
    have hlt2 : decide ((b.length : Int) < n) = false := by simp; omega
    go_enter Try.func98, Try.ntmps98
    go_wp2_with (at_make; refine wpList_make_full _ rfl _ _ 27 rfl w.heap.size 5 i0 (.int .u8 0) 1 Try.underlying27 hi hz0 hz1 _ _ _ _ n rfl rfl rfl rfl (by rw [hz2]; omega) (by unfold maxLen; omega) (Nat.le_refl _) ?_; intro w1 hown hgrow)
    go_loopw [15] (fun i wr => ∃ k : Nat, k ≤ n ∧ i = .int .i64 k ∧ wr.ownsRow w.heap.size 5 1 (.slice (some ⟨w.heap.size, 0, none⟩) n n) n (cells (xorArr z k)) ∧ Below w.heap.size w wr) (fun i _ => n - (intOf i).toNat)
    case atStart => exact ⟨0, Nat.zero_le _, rfl, by rw [madeZ] at hown; simpa [xorArr, hzl] using hown, (Below.refl _ _).grown hgrow (Nat.le_refl _) (by simp)⟩
    case round =>
      clear hown hgrow
      obtain ⟨k, hk, rfl, hown, hbel⟩ := hrel
      by_cases hkn : k < n
      · have ha1 : k < a.length := by omega
        have hb1 : k < b.length := by omega
        have hz1' : k < z.length := by omega
        obtain ⟨x, hx⟩ : ∃ x, a[k] = x := ⟨_, rfl⟩
        obtain ⟨y, hy⟩ : ∃ y, b[k] = y := ⟨_, rfl⟩
        obtain ⟨v, hv⟩ : ∃ v, z[k] = v := ⟨_, rfl⟩
        have hxy : Go.bits .xor .u8 (x.toNat : Int) (y.toNat : Int) = (v.toNat : Int) := by
          rw [xor_val, ← hv, HZG.out k hkn ha1 hb1, hx, hy]
        have hset := xorArr_set z k hz1'
        rw [hv] at hset
        have hal := xorArr_length z k (by omega)
        have HSET := Lib.hid hset
        have ha2 : (k : Int) < a.length := by omega
        have hb2 : (k : Int) < b.length := by omega
        have hk0 : (0 : Int) ≤ k := by omega
        have hkn' : (k : Int) < n := by omega
        clear hset hv
        go_wp2_with fail
        apply region_last (n := 10) (hn := by kernel_rfl) (hlast := rfl) (hU := by kernel_rfl) (Φs := (Is _ :: Is _ :: Is _ :: Is _ :: Is _ :: Is _ :: Is _ :: Is _ :: Is _ :: Is _ :: [])) (hm := by kernel_rfl) (hE := by kernel_rfl) (hD := by kernel_rfl) (hsize := by kernel_rfl)
        case hop =>
          refine ⟨?_, ?_, ?_, ?_, ?_, ?_, ?_, ?_, ?_, ?_, trivial⟩
          · intro a' w' hs hp he
            have e5 := hs 5 (by kernel_rfl)
            try simp [Is, Region.binds] at he
            exact op_val rfl (wanted_none rfl) (by first | (go_simp; done) | (go_simp; rfl) | (simp [execOp, Act.eval, go_sem, *]; done) | (simp [execOp, Act.eval, go_sem, *]; rfl)) rfl (Pu.refl _)
          · intro a' w' hs hp he
            have e6 := hs 6 (by kernel_rfl)
            try simp [Is, Region.binds] at he
            exact op_val rfl (wanted_none rfl) (by first | (go_simp; done) | (go_simp; rfl) | (simp [execOp, Act.eval, go_sem, *]; done) | (simp [execOp, Act.eval, go_sem, *]; rfl)) rfl (Pu.refl _)
          · intro a' w' hs hp he
            have e0 := hs 0 (by kernel_rfl)
            try simp [Is, Region.binds] at he
            exact op_val rfl (wanted_none rfl) (by first | (go_simp; done) | (go_simp; rfl) | (simp [execOp, Act.eval, go_sem, *]; done) | (simp [execOp, Act.eval, go_sem, *]; rfl)) rfl (Pu.refl _)
          · intro a' w' hs hp he
            have e6 := hs 6 (by kernel_rfl)
            try simp [Is, Region.binds] at he
            exact op_val rfl (wanted_none rfl) (by first | (go_simp; done) | (go_simp; rfl) | (simp [execOp, Act.eval, go_sem, *]; done) | (simp [execOp, Act.eval, go_sem, *]; rfl)) rfl (Pu.refl _)
          · intro a' w' hs hp he
            try simp [Is, Region.binds] at he
            exact op_val rfl (wanted_none rfl) (by first | (go_simp; done) | (go_simp; rfl) | (simp [execOp, Act.eval, go_sem, *]; done) | (simp [execOp, Act.eval, go_sem, *]; rfl)) rfl (Pu.refl _)
          · intro a' w' hs hp he
            have e1 := hs 1 (by kernel_rfl)
            try simp [Is, Region.binds] at he
            exact op_val rfl (wanted_none rfl) (by first | (go_simp; done) | (go_simp; rfl) | (simp [execOp, Act.eval, go_sem, *]; done) | (simp [execOp, Act.eval, go_sem, *]; rfl)) rfl (Pu.refl _)
          · intro a' w' hs hp he
            have e6 := hs 6 (by kernel_rfl)
            try simp [Is, Region.binds] at he
            exact op_val rfl (wanted_none rfl) (by first | (go_simp; done) | (go_simp; rfl) | (simp [execOp, Act.eval, go_sem, *]; done) | (simp [execOp, Act.eval, go_sem, *]; rfl)) rfl (Pu.refl _)
          · intro a' w' hs hp he
            try simp [Is, Region.binds] at he
            exact op_val rfl (wanted_none rfl) (by first | (go_simp; done) | (go_simp; rfl) | (simp [execOp, Act.eval, go_sem, *]; done) | (simp [execOp, Act.eval, go_sem, *]; rfl)) rfl (Pu.refl _)
          · intro a' w' hs hp he
            try simp [Is, Region.binds] at he
            exact op_val rfl (wanted_none rfl) (by first | (go_simp; done) | (go_simp; rfl) | (simp [execOp, Act.eval, go_sem, *]; done) | (simp [execOp, Act.eval, go_sem, *]; rfl)) rfl (Pu.refl _)
          · intro a' w' hs hp he
            try simp [Is, Region.binds] at he
            exact op_val rfl (wanted_none rfl) (by first | (go_simp; done) | (go_simp; rfl) | (simp [execOp, Act.eval, go_sem, *]; done) | (simp [execOp, Act.eval, go_sem, *]; rfl)) rfl (Pu.refl _)
        case hend =>
          intro a' w' hdef hsz hs hp hall
          obtain ⟨r0, r1, r2, r3, r4, r5, r6, r7, r8, r9, -⟩ := hall
          have hA := agree_done (agree_step (agree_step (agree_step (agree_step (agree_step (agree_step (agree_step (agree_step (agree_step (agree_step (agree_init [18, 19, 20, 21, 22, 23, 24, 25, 26, 27] hsz hs (by kernel_rfl)) r0) r1) r2) r3) r4) r5) r6) r7) r8) r9)
          have ha := act_of hA hdef
          rw [ha]
          clear ha hA hs hsz hdef r0 r1 r2 r3 r4 r5 r6 r7 r8 r9 
          (try simp only [List.setIfInBounds_toArray])
          (try dsimp only [List.set_cons_zero, List.set_cons_succ])
          (try simp only [Exit.then])
          have hown' := own_pu hown hp; obtain ⟨v0, hcl⟩ : ∃ v0, w'.cell? ⟨w.heap.size, k, none⟩ = some v0 := (by have hcl := hown'.cellAt k (by omega); rw [cells_get _ _ (by omega)] at hcl; exact ⟨_, hcl⟩); have hf := hown'.frozenAt k; have hst := hown'.stored k (.int .u8 (v.toNat : Int)); rw [cells_set, HSET.out] at hst
          refine op_done rfl (wanted_none rfl) (by first | (go_simp; done) | (go_simp; rfl)) ?_
          (try simp only [Exit.inBlock, Exit.then])
          go_wp2_with fail
          go_roundw
          case rel => exact ⟨k + 1, by omega, by go_num, hst.1, (hbel.trans (Below.mono hp hbel.size)).grown hst.2 (by have := hbel.size; have := hp.size; omega) (by simp)⟩
          case measure => simp [intOf]; omega
      · obtain rfl : k = n := by omega
        have he : xorArr z k = z := by simp [xorArr, ← hzl]
        rw [he] at hown
        have hcv := own_conv (P := Try.prog) 27 9 hown Try.underlying27 Try.underlying5 Try.underlying9
        clear he
        go_wp2_with fail
        go_ret
        exact ⟨rfl, hbel⟩
theorem xor (a b : Bs) (h : a.length ≤ 1000000 ∨ b.length ≤ 1000000) (w : World) :
    Calls Try.prog 98 #[S a, S b] w fun e w' => e = .returned (S (xorL a b)) ∧ Pu w w' := by
  by_cases hlt : b.length < a.length
  · exact xor_of a b b.length (.inl ⟨rfl, hlt⟩) (by omega) w
  · exact xor_of a b a.length (.inr ⟨rfl, by omega⟩) (by omega) w
set_option maxHeartbeats 400000 in
theorem refZeros (n : Nat) (hn : n ≤ 1000000) (w : World) :
    Calls Try.prog 97 #[.int .i64 (n : Int)] w fun e w' => e = .returned (S (List.replicate n 0)) ∧ Pu w w' := by
  obtain ⟨i0, hi, hz0, hz1, hz2⟩ := info_parts infoB
  go_enter Try.func97, Try.ntmps97
  go_wp2_with (at_make; refine wpList_make_full _ rfl _ _ 27 rfl w.heap.size 5 i0 (.int .u8 0) 1 Try.underlying27 hi hz0 hz1 _ _ _ _ n rfl rfl rfl rfl (by rw [hz2]; omega) (by unfold maxLen; omega) (Nat.le_refl _) ?_; intro w1 hown hgrow; rw [madeZ] at hown; have hcv := own_conv (P := Try.prog) 27 9 hown Try.underlying27 Try.underlying5 Try.underlying9)
  go_ret
  exact ⟨rfl, (Below.refl _ _).grown hgrow (Nat.le_refl _) (by simp)⟩
end Go.Proofs.Ytdjbhbefghihcaa
