/- octet.Xor, and the document's Xor and zeros. Words of 32 bits in a walk. Turns of words: bits.RotateLeft32, octet.Left, digest.right, digest.turned, and the document's Left. The schedule of a block. Package mac: Same; counters that count as one. -/
import Derived.Test.YtlbdbmnkjljohaaGreatT2
import Derived.Laws.BitsAllLaws
set_option linter.unusedSimpArgs false
set_option linter.unusedVariables false
set_option linter.unusedSimpArgs false
set_option linter.unusedVariables false
namespace Go.Esc
open Go Go.RowKit
def xorL (a b : Bs) : Bs := List.zipWith (· ^^^ ·) a b
theorem xorL_length (a b : Bs) : (xorL a b).length = min a.length b.length := by simp [xorL]
def xorArr (z : Bs) (k : Nat) : Bs := z.take k ++ List.replicate (z.length - k) 0
theorem xorArr_length (z : Bs) (k : Nat) (h : k ≤ z.length) : (xorArr z k).length = z.length := by simp [xorArr]; omega
theorem xorArr_set (z : Bs) (k : Nat) (h : k < z.length) : (xorArr z k).set k z[k] = xorArr z (k+1) := by
  obtain ⟨j, hj⟩ : ∃ j, z.length - k = j + 1 := ⟨z.length - k - 1, by omega⟩
  rw [xorArr, xorArr, hj, show z.length - (k + 1) = j by omega, List.replicate_succ, List.set_append, List.take_succ_eq_append_getElem h]
  simp [Nat.min_eq_left (Nat.le_of_lt h)]
  rw [List.take_succ_eq_append_getElem h, List.append_assoc]; rfl
theorem xor_val (x y : UInt8) : Go.bits .xor .u8 (x.toNat : Int) (y.toNat : Int) = ((x ^^^ y).toNat : Int) := by
  rw [u8_xor_nat _ _ x.toNat_lt y.toNat_lt, UInt8.toNat_xor]
end Go.Esc
namespace Go.Proofs.YtlbdbmnkjljohaaGreat
open Go.RowKit Go.Esc
set_option maxRecDepth 100000 in
set_option maxHeartbeats 1600000 in
theorem xor_of (a b : Bs) (n : Nat) (hab : (b.length = n ∧ n < a.length) ∨ (a.length = n ∧ n ≤ b.length)) (hn : n ≤ 1000000) (w : World) :
    Calls Tryz.prog 72 #[S a, S b] w fun e w' => e = .returned (S (xorL a b)) ∧ Pu w w' := by
  obtain ⟨i0, hi, hz0, hz1, hz2⟩ := info_parts infoB
  obtain ⟨z, hz⟩ : ∃ z, z = xorL a b := ⟨_, rfl⟩
  have hzl : z.length = n := by rw [hz, xorL_length]; omega
  have hzg : ∀ (k : Nat) (h : k < n) (h1 : k < a.length) (h2 : k < b.length), z[k]'(by omega) = a[k] ^^^ b[k] := by
    intro k h h1 h2; simp only [hz, xorL, List.getElem_zipWith]
  rw [← hz]
  have HZG := Lib.hid hzg
  clear hz hzg
  rcases hab with ⟨hbn, hlt⟩ | ⟨hbn, hlt⟩
  · have hlt' : (n : Int) < a.length := by omega
    go_enter Tryz.func72, Tryz.ntmps72
    go_wp2_with (at_make; refine wpList_make_full _ rfl _ _ 42 rfl w.heap.size 5 i0 (.int .u8 0) 1 Tryz.underlying42 hi hz0 hz1 _ _ _ _ n rfl rfl rfl rfl (by rw [hz2]; omega) (by unfold maxLen; omega) (Nat.le_refl _) ?_; intro w1 hown hgrow)
    go_loopw [15] (fun i wr => ∃ k : Nat, k ≤ n ∧ i = .int .i64 k ∧ wr.ownsRow w.heap.size 5 1 (.slice (some ⟨w.heap.size, 0, none⟩) n n) n (cells (xorArr z k)) ∧ Below w.heap.size w wr) (fun i _ => n - (intOf i).toNat)
    case atStart => exact ⟨0, Nat.zero_le _, rfl, by rw [madeZ] at hown; simpa [xorArr, hzl] using hown, (Below.refl _ _).grown hgrow (Nat.le_refl _) (by simp)⟩
    case round =>
      clear hown hgrow
      obtain ⟨k, hk, rfl, hown, hbel⟩ := hrel
      by_cases hkn : k < n
      · have ha1 : k < a.length := by omega
        have hb1 : k < b.length := by omega
        have hz1' : k < z.length := by omega
        obtain ⟨x, hx⟩ : ∃ x, a[k] = x := ⟨_, rfl⟩
        obtain ⟨y, hy⟩ : ∃ y, b[k] = y := ⟨_, rfl⟩
        obtain ⟨v, hv⟩ : ∃ v, z[k] = v := ⟨_, rfl⟩
        have hxy : Go.bits .xor .u8 (x.toNat : Int) (y.toNat : Int) = (v.toNat : Int) := by
          rw [xor_val, ← hv, HZG.out k hkn ha1 hb1, hx, hy]
        have hset := xorArr_set z k hz1'
        rw [hv] at hset
        have hal := xorArr_length z k (by omega)
        have HSET := Lib.hid hset
        have ha2 : (k : Int) < a.length := by omega
        have hb2 : (k : Int) < b.length := by omega
        have hk0 : (0 : Int) ≤ k := by omega
        have hkn' : (k : Int) < n := by omega
        clear hset hv
        go_wp2_with fail
        apply region_last (n := 10) (hn := by kernel_rfl) (hlast := rfl) (hU := by kernel_rfl) (Φs := (Is _ :: Is _ :: Is _ :: Is _ :: Is _ :: Is _ :: Is _ :: Is _ :: Is _ :: Is _ :: [])) (hm := by kernel_rfl) (hE := by kernel_rfl) (hD := by kernel_rfl) (hsize := by kernel_rfl)
        case hop =>
          refine ⟨?_, ?_, ?_, ?_, ?_, ?_, ?_, ?_, ?_, ?_, trivial⟩
          · intro a' w' hs hp he
            have e5 := hs 5 (by kernel_rfl)
            try simp [Is, Region.binds] at he
            exact op_val rfl (wanted_none rfl) (by first | (go_simp; done) | (go_simp; rfl) | (simp [execOp, Act.eval, go_sem, *]; done) | (simp [execOp, Act.eval, go_sem, *]; rfl)) rfl (Pu.refl _)
          · intro a' w' hs hp he
            have e6 := hs 6 (by kernel_rfl)
            try simp [Is, Region.binds] at he
            exact op_val rfl (wanted_none rfl) (by first | (go_simp; done) | (go_simp; rfl) | (simp [execOp, Act.eval, go_sem, *]; done) | (simp [execOp, Act.eval, go_sem, *]; rfl)) rfl (Pu.refl _)
          · intro a' w' hs hp he
            have e0 := hs 0 (by kernel_rfl)
            try simp [Is, Region.binds] at he
            exact op_val rfl (wanted_none rfl) (by first | (go_simp; done) | (go_simp; rfl) | (simp [execOp, Act.eval, go_sem, *]; done) | (simp [execOp, Act.eval, go_sem, *]; rfl)) rfl (Pu.refl _)
          · intro a' w' hs hp he
            have e6 := hs 6 (by kernel_rfl)
            try simp [Is, Region.binds] at he
            exact op_val rfl (wanted_none rfl) (by first | (go_simp; done) | (go_simp; rfl) | (simp [execOp, Act.eval, go_sem, *]; done) | (simp [execOp, Act.eval, go_sem, *]; rfl)) rfl (Pu.refl _)
          · intro a' w' hs hp he
            try simp [Is, Region.binds] at he
            exact op_val rfl (wanted_none rfl) (by first | (go_simp; done) | (go_simp; rfl) | (simp [execOp, Act.eval, go_sem, *]; done) | (simp [execOp, Act.eval, go_sem, *]; rfl)) rfl (Pu.refl _)
          · intro a' w' hs hp he
            have e1 := hs 1 (by kernel_rfl)
            try simp [Is, Region.binds] at he
            exact op_val rfl (wanted_none rfl) (by first | (go_simp; done) | (go_simp; rfl) | (simp [execOp, Act.eval, go_sem, *]; done) | (simp [execOp, Act.eval, go_sem, *]; rfl)) rfl (Pu.refl _)
          · intro a' w' hs hp he
            have e6 := hs 6 (by kernel_rfl)
            try simp [Is, Region.binds] at he
            exact op_val rfl (wanted_none rfl) (by first | (go_simp; done) | (go_simp; rfl) | (simp [execOp, Act.eval, go_sem, *]; done) | (simp [execOp, Act.eval, go_sem, *]; rfl)) rfl (Pu.refl _)
          · intro a' w' hs hp he
            try simp [Is, Region.binds] at he
            exact op_val rfl (wanted_none rfl) (by first | (go_simp; done) | (go_simp; rfl) | (simp [execOp, Act.eval, go_sem, *]; done) | (simp [execOp, Act.eval, go_sem, *]; rfl)) rfl (Pu.refl _)
          · intro a' w' hs hp he
            try simp [Is, Region.binds] at he
            exact op_val rfl (wanted_none rfl) (by first | (go_simp; done) | (go_simp; rfl) | (simp [execOp, Act.eval, go_sem, *]; done) | (simp [execOp, Act.eval, go_sem, *]; rfl)) rfl (Pu.refl _)
          · intro a' w' hs hp he
            try simp [Is, Region.binds] at he
            exact op_val rfl (wanted_none rfl) (by first | (go_simp; done) | (go_simp; rfl) | (simp [execOp, Act.eval, go_sem, *]; done) | (simp [execOp, Act.eval, go_sem, *]; rfl)) rfl (Pu.refl _)
        case hend =>
          intro a' w' hdef hsz hs hp hall
          obtain ⟨r0, r1, r2, r3, r4, r5, r6, r7, r8, r9, -⟩ := hall
          have hA := agree_done (agree_step (agree_step (agree_step (agree_step (agree_step (agree_step (agree_step (agree_step (agree_step (agree_step (agree_init [18, 19, 20, 21, 22, 23, 24, 25, 26, 27] hsz hs (by kernel_rfl)) r0) r1) r2) r3) r4) r5) r6) r7) r8) r9)
          have ha := act_of hA hdef
          rw [ha]
          clear ha hA hs hsz hdef r0 r1 r2 r3 r4 r5 r6 r7 r8 r9 
          (try simp only [List.setIfInBounds_toArray])
          (try dsimp only [List.set_cons_zero, List.set_cons_succ])
          (try simp only [Exit.then])
          have hown' := own_pu hown hp; obtain ⟨v0, hcl⟩ : ∃ v0, w'.cell? ⟨w.heap.size, k, none⟩ = some v0 := (by have hcl := hown'.cellAt k (by omega); rw [cells_get _ _ (by omega)] at hcl; exact ⟨_, hcl⟩); have hf := hown'.frozenAt k; have hst := hown'.stored k (.int .u8 (v.toNat : Int)); rw [cells_set, HSET.out] at hst
          refine op_done rfl (wanted_none rfl) (by first | (go_simp; done) | (go_simp; rfl)) ?_
          (try simp only [Exit.inBlock, Exit.then])
          go_wp2_with fail
          go_roundw
          case rel => exact ⟨k + 1, by omega, by go_num, hst.1, (hbel.trans (Below.mono hp hbel.size)).grown hst.2 (by have := hbel.size; have := hp.size; omega) (by simp)⟩
          case measure => simp [intOf]; omega
      · obtain rfl : k = n := by omega
        have he : xorArr z k = z := by simp [xorArr, ← hzl]
        rw [he] at hown
        have hcv := own_conv (P := Tryz.prog) 42 9 hown Tryz.underlying42 Tryz.underlying5 Tryz.underlying9
        clear he
        go_wp2_with fail
        go_ret
        exact ⟨rfl, hbel⟩
  · have hlt' : (n : Int) ≤ b.length := by omega
    have hlt2 : decide ((b.length : Int) < n) = false := by simp; omega
    go_enter Tryz.func72, Tryz.ntmps72
    go_wp2_with (at_make; refine wpList_make_full _ rfl _ _ 42 rfl w.heap.size 5 i0 (.int .u8 0) 1 Tryz.underlying42 hi hz0 hz1 _ _ _ _ n rfl rfl rfl rfl (by rw [hz2]; omega) (by unfold maxLen; omega) (Nat.le_refl _) ?_; intro w1 hown hgrow)
    go_loopw [15] (fun i wr => ∃ k : Nat, k ≤ n ∧ i = .int .i64 k ∧ wr.ownsRow w.heap.size 5 1 (.slice (some ⟨w.heap.size, 0, none⟩) n n) n (cells (xorArr z k)) ∧ Below w.heap.size w wr) (fun i _ => n - (intOf i).toNat)
    case atStart => exact ⟨0, Nat.zero_le _, rfl, by rw [madeZ] at hown; simpa [xorArr, hzl] using hown, (Below.refl _ _).grown hgrow (Nat.le_refl _) (by simp)⟩
    case round =>
      clear hown hgrow
      obtain ⟨k, hk, rfl, hown, hbel⟩ := hrel
      by_cases hkn : k < n
      · have ha1 : k < a.length := by omega
        have hb1 : k < b.length := by omega
        have hz1' : k < z.length := by omega
        obtain ⟨x, hx⟩ : ∃ x, a[k] = x := ⟨_, rfl⟩
        obtain ⟨y, hy⟩ : ∃ y, b[k] = y := ⟨_, rfl⟩
        obtain ⟨v, hv⟩ : ∃ v, z[k] = v := ⟨_, rfl⟩
        have hxy : Go.bits .xor .u8 (x.toNat : Int) (y.toNat : Int) = (v.toNat : Int) := by
          rw [xor_val, ← hv, HZG.out k hkn ha1 hb1, hx, hy]
        have hset := xorArr_set z k hz1'
        rw [hv] at hset
        have hal := xorArr_length z k (by omega)
        have HSET := Lib.hid hset
        have ha2 : (k : Int) < a.length := by omega
        have hb2 : (k : Int) < b.length := by omega
        have hk0 : (0 : Int) ≤ k := by omega
        have hkn' : (k : Int) < n := by omega
        clear hset hv
        go_wp2_with fail
        apply region_last (n := 10) (hn := by kernel_rfl) (hlast := rfl) (hU := by kernel_rfl) (Φs := (Is _ :: Is _ :: Is _ :: Is _ :: Is _ :: Is _ :: Is _ :: Is _ :: Is _ :: Is _ :: [])) (hm := by kernel_rfl) (hE := by kernel_rfl) (hD := by kernel_rfl) (hsize := by kernel_rfl)
        case hop =>
          refine ⟨?_, ?_, ?_, ?_, ?_, ?_, ?_, ?_, ?_, ?_, trivial⟩
          · intro a' w' hs hp he
            have e5 := hs 5 (by kernel_rfl)
            try simp [Is, Region.binds] at he
            exact op_val rfl (wanted_none rfl) (by first | (go_simp; done) | (go_simp; rfl) | (simp [execOp, Act.eval, go_sem, *]; done) | (simp [execOp, Act.eval, go_sem, *]; rfl)) rfl (Pu.refl _)
          · intro a' w' hs hp he
            have e6 := hs 6 (by kernel_rfl)
            try simp [Is, Region.binds] at he
            exact op_val rfl (wanted_none rfl) (by first | (go_simp; done) | (go_simp; rfl) | (simp [execOp, Act.eval, go_sem, *]; done) | (simp [execOp, Act.eval, go_sem, *]; rfl)) rfl (Pu.refl _)
          · intro a' w' hs hp he
            have e0 := hs 0 (by kernel_rfl)
            try simp [Is, Region.binds] at he
            exact op_val rfl (wanted_none rfl) (by first | (go_simp; done) | (go_simp; rfl) | (simp [execOp, Act.eval, go_sem, *]; done) | (simp [execOp, Act.eval, go_sem, *]; rfl)) rfl (Pu.refl _)
          · intro a' w' hs hp he
            have e6 := hs 6 (by kernel_rfl)
            try simp [Is, Region.binds] at he
            exact op_val rfl (wanted_none rfl) (by first | (go_simp; done) | (go_simp; rfl) | (simp [execOp, Act.eval, go_sem, *]; done) | (simp [execOp, Act.eval, go_sem, *]; rfl)) rfl (Pu.refl _)
          · intro a' w' hs hp he
            try simp [Is, Region.binds] at he
            exact op_val rfl (wanted_none rfl) (by first | (go_simp; done) | (go_simp; rfl) | (simp [execOp, Act.eval, go_sem, *]; done) | (simp [execOp, Act.eval, go_sem, *]; rfl)) rfl (Pu.refl _)
          · intro a' w' hs hp he
            have e1 := hs 1 (by kernel_rfl)
            try simp [Is, Region.binds] at he
            exact op_val rfl (wanted_none rfl) (by first | (go_simp; done) | (go_simp; rfl) | (simp [execOp, Act.eval, go_sem, *]; done) | (simp [execOp, Act.eval, go_sem, *]; rfl)) rfl (Pu.refl _)
          · intro a' w' hs hp he
            have e6 := hs 6 (by kernel_rfl)
            try simp [Is, Region.binds] at he
            exact op_val rfl (wanted_none rfl) (by first | (go_simp; done) | (go_simp; rfl) | (simp [execOp, Act.eval, go_sem, *]; done) | (simp [execOp, Act.eval, go_sem, *]; rfl)) rfl (Pu.refl _)
          · intro a' w' hs hp he
            try simp [Is, Region.binds] at he
            exact op_val rfl (wanted_none rfl) (by first | (go_simp; done) | (go_simp; rfl) | (simp [execOp, Act.eval, go_sem, *]; done) | (simp [execOp, Act.eval, go_sem, *]; rfl)) rfl (Pu.refl _)
          · intro a' w' hs hp he
            try simp [Is, Region.binds] at he
            exact op_val rfl (wanted_none rfl) (by first | (go_simp; done) | (go_simp; rfl) | (simp [execOp, Act.eval, go_sem, *]; done) | (simp [execOp, Act.eval, go_sem, *]; rfl)) rfl (Pu.refl _)
          · intro a' w' hs hp he
            try simp [Is, Region.binds] at he
            exact op_val rfl (wanted_none rfl) (by first | (go_simp; done) | (go_simp; rfl) | (simp [execOp, Act.eval, go_sem, *]; done) | (simp [execOp, Act.eval, go_sem, *]; rfl)) rfl (Pu.refl _)
        case hend =>
          intro a' w' hdef hsz hs hp hall
          obtain ⟨r0, r1, r2, r3, r4, r5, r6, r7, r8, r9, -⟩ := hall
          have hA := agree_done (agree_step (agree_step (agree_step (agree_step (agree_step (agree_step (agree_step (agree_step (agree_step (agree_step (agree_init [18, 19, 20, 21, 22, 23, 24, 25, 26, 27] hsz hs (by kernel_rfl)) r0) r1) r2) r3) r4) r5) r6) r7) r8) r9)
          have ha := act_of hA hdef
          rw [ha]
          clear ha hA hs hsz hdef r0 r1 r2 r3 r4 r5 r6 r7 r8 r9 
          (try simp only [List.setIfInBounds_toArray])
          (try dsimp only [List.set_cons_zero, List.set_cons_succ])
          (try simp only [Exit.then])
          have hown' := own_pu hown hp; obtain ⟨v0, hcl⟩ : ∃ v0, w'.cell? ⟨w.heap.size, k, none⟩ = some v0 := (by have hcl := hown'.cellAt k (by omega); rw [cells_get _ _ (by omega)] at hcl; exact ⟨_, hcl⟩); have hf := hown'.frozenAt k; have hst := hown'.stored k (.int .u8 (v.toNat : Int)); rw [cells_set, HSET.out] at hst
          refine op_done rfl (wanted_none rfl) (by first | (go_simp; done) | (go_simp; rfl)) ?_
          (try simp only [Exit.inBlock, Exit.then])
          go_wp2_with fail
          go_roundw
          case rel => exact ⟨k + 1, by omega, by go_num, hst.1, (hbel.trans (Below.mono hp hbel.size)).grown hst.2 (by have := hbel.size; have := hp.size; omega) (by simp)⟩
          case measure => simp [intOf]; omega
      · obtain rfl : k = n := by omega
        have he : xorArr z k = z := by simp [xorArr, ← hzl]
        rw [he] at hown
        have hcv := own_conv (P := Tryz.prog) 42 9 hown Tryz.underlying42 Tryz.underlying5 Tryz.underlying9
        clear he
        go_wp2_with fail
        go_ret
        exact ⟨rfl, hbel⟩
theorem xor (a b : Bs) (h : a.length ≤ 1000000 ∨ b.length ≤ 1000000) (w : World) :
    Calls Tryz.prog 72 #[S a, S b] w fun e w' => e = .returned (S (xorL a b)) ∧ Pu w w' := by
  by_cases hlt : b.length < a.length
  · exact xor_of a b b.length (.inl ⟨rfl, hlt⟩) (by omega) w
  · exact xor_of a b a.length (.inr ⟨rfl, by omega⟩) (by omega) w
set_option maxHeartbeats 400000 in
theorem refZeros (n : Nat) (hn : n ≤ 1000000) (w : World) :
    Calls Tryz.prog 70 #[.int .i64 (n : Int)] w fun e w' => e = .returned (S (List.replicate n 0)) ∧ Pu w w' := by
  obtain ⟨i0, hi, hz0, hz1, hz2⟩ := info_parts infoB
  go_enter Tryz.func70, Tryz.ntmps70
  go_wp2_with (at_make; refine wpList_make_full _ rfl _ _ 42 rfl w.heap.size 5 i0 (.int .u8 0) 1 Tryz.underlying42 hi hz0 hz1 _ _ _ _ n rfl rfl rfl rfl (by rw [hz2]; omega) (by unfold maxLen; omega) (Nat.le_refl _) ?_; intro w1 hown hgrow; rw [madeZ] at hown; have hcv := own_conv (P := Tryz.prog) 42 9 hown Tryz.underlying42 Tryz.underlying5 Tryz.underlying9)
  go_ret
  exact ⟨rfl, (Below.refl _ _).grown hgrow (Nat.le_refl _) (by simp)⟩
end Go.Proofs.YtlbdbmnkjljohaaGreat
namespace Go.Esc
open Go Go.RowKit
/-- A word as a number (kept whole). -/
def wd (x : BitVec 32) : Int := (x.toNat : Int)
/-- A word as a value. -/
abbrev V (x : BitVec 32) : Value := .int .u32 (wd x)
theorem V_eq (x : BitVec 32) : V x = W x := rfl
theorem wd_nonneg (x : BitVec 32) : 0 ≤ wd x := Int.natCast_nonneg _
theorem wd_lt (x : BitVec 32) : wd x ≤ 4294967295 := by have := x.isLt; simp only [wd]; omega
theorem wd_toNat (x : BitVec 32) : (wd x).toNat = x.toNat := by simp [wd]
theorem wd_add (a b : BitVec 32) : IntKind.u32.wrap (wd a + wd b) = wd (a + b) := by
  rw [IntKind.wrap_u32]; simp only [wd, BitVec.toNat_add]; omega
theorem wd_add' (a b : BitVec 32) : (wd a + wd b) % 4294967296 = wd (a + b) := by rw [← wd_add, IntKind.wrap_u32]
theorem wd_sub (a b : BitVec 32) : IntKind.u32.wrap (wd a - wd b) = wd (a - b) := by
  have := a.isLt; have := b.isLt
  rw [IntKind.wrap_u32]; simp only [wd, BitVec.toNat_sub]; omega
theorem wd_ones (a : BitVec 32) : IntKind.u32.wrap (4294967295 - wd a) = wd (~~~a) := by
  have := a.isLt
  rw [IntKind.wrap_u32]; simp only [wd, BitVec.toNat_not]; omega
theorem wd_ones' (a : BitVec 32) : 4294967295 - wd a = wd (~~~a) := by
  have := a.isLt
  simp only [wd, BitVec.toNat_not]; omega
theorem wd_xor (a b : BitVec 32) : Go.bits .xor .u32 (wd a) (wd b) = wd (a ^^^ b) := by
  have := wd_nonneg a; have := wd_nonneg b; have := wd_lt a; have := wd_lt b
  rw [u32_xor _ _ (by omega) (by omega) (by omega) (by omega), wd_toNat, wd_toNat]; simp [wd]
theorem wd_and (a b : BitVec 32) : Go.bits .and .u32 (wd a) (wd b) = wd (a &&& b) := by
  have := wd_nonneg a; have := wd_nonneg b; have := wd_lt a; have := wd_lt b
  rw [u32_and _ _ (by omega) (by omega) (by omega) (by omega), wd_toNat, wd_toNat]; simp [wd]
theorem wd_or (a b : BitVec 32) : Go.bits .or .u32 (wd a) (wd b) = wd (a ||| b) := by
  have := wd_nonneg a; have := wd_nonneg b; have := wd_lt a; have := wd_lt b
  rw [u32_or _ _ (by omega) (by omega) (by omega) (by omega), wd_toNat, wd_toNat]; simp [wd]
theorem wd_not (a : BitVec 32) : Go.bits .xor .u32 4294967295 (wd a) = wd (~~~a) := by
  have h : (4294967295 : Int) = wd (BitVec.allOnes 32) := by decide
  rw [h, wd_xor, BitVec.allOnes_xor]
theorem wd_shr (a : BitVec 32) (n : Nat) : wd a / 2 ^ n = wd (a >>> n) := by
  simp only [wd, BitVec.toNat_ushiftRight, Nat.shiftRight_eq_div_pow]; simp
theorem wd_shr3 (a : BitVec 32) : wd a / (8 : Int) = wd (a >>> 3) := wd_shr a 3
theorem wd_shr10 (a : BitVec 32) : wd a / (1024 : Int) = wd (a >>> 10) := wd_shr a 10
theorem wd_shl (a : BitVec 32) (n : Nat) : wd a * 2 ^ n % 4294967296 = wd (a <<< n) := by
  simp only [wd, BitVec.toNat_shiftLeft, Nat.shiftLeft_eq]; simp
theorem wrap32_nat (n : Nat) : IntKind.u32.wrap (n : Int) = wd (BitVec.ofNat 32 n) := by
  rw [IntKind.wrap_u32]; simp [wd]
theorem wrap32_nat' (n : Nat) : (n : Int) % 4294967296 = wd (BitVec.ofNat 32 n) := by rw [← wrap32_nat, IntKind.wrap_u32]
theorem wrap64_wd (x : BitVec 32) : IntKind.u64.wrap (wd x) = wd x := by
  have := wd_nonneg x; have := wd_lt x
  rw [IntKind.wrap_u64]; omega
attribute [go_sem] wd_add wd_add' wd_sub wd_ones wd_ones' wd_xor wd_and wd_or wd_not wd_shr wd_shr3 wd_shr10 wd_shl wrap32_nat wrap64_wd
end Go.Esc
set_option linter.unusedSimpArgs false
set_option linter.unusedVariables false
namespace Go.Proofs.YtlbdbmnkjljohaaGreat
open Go.RowKit Go.Esc
set_option maxHeartbeats 400000 in
theorem rotateLeft (x : BitVec 32) (k : Nat) (hk : k < 32) (w : World) :
    Calls Tryz.prog 149 #[V x, .int .i64 (k : Int)] w fun e w' => e = .returned (V (rotl x k)) ∧ w' = w := by
  have ha : Go.bits .and .u64 (k : Int) 31 = k := by
    rw [u64_and _ _ (by omega) (by omega) (by omega) (by omega)]
    show ((k &&& 31 : Nat) : Int) = k
    rw [show (31 : Nat) = 2^5 - 1 from rfl, Nat.and_two_pow_sub_one_of_lt_two_pow (by omega)]
  have h0 : (0 : Int) ≤ 32 - k := by omega
  have h1 : (0 : Int) ≤ k := by omega
  go_enter Tryz.func149, Tryz.ntmps149
  go_wp2_with fail
  go_ret
  exact ⟨rfl, rfl⟩

set_option maxHeartbeats 400000 in
/-- A turn to the left, by whatever number. -/
theorem left (x : BitVec 32) (n : Int) (_ : -1000 ≤ n) (_ : n ≤ 1000) (w : World) :
    Calls Tryz.prog 148 #[V x, .int .i64 n] w fun e w' => e = .returned (V (rotl x (n % 32).toNat)) ∧ w' = w := by
  have h1 : -32 < n.tmod 32 := Int.lt_tmod_of_pos n (by decide)
  have h2 : n.tmod 32 < 32 := Int.tmod_lt_of_pos n (by decide)
  have h3 : n.tmod 32 % 32 = n % 32 := by
    have := Int.tmod_add_mul_tdiv n 32
    omega
  obtain ⟨m, hm⟩ : ∃ m, m = (n % 32).toNat := ⟨_, rfl⟩
  have h4 : n % 32 = (m : Int) := by omega
  rw [← hm]
  have HM := Lib.hid hm
  have hr := rotateLeft x m (by omega) w
  have HR := Lib.hid hr
  have h5 : n.tmod 32 % 32 = (m : Int) := by omega
  clear hm h3 h4 hr
  go_enter Tryz.func148, Tryz.ntmps148
  go_wp2_with (go_at_call 149; refine HR.out.mono ?_; rintro e w1 ⟨rfl, rfl⟩)
  go_ret
  exact ⟨rfl, rfl⟩

set_option maxHeartbeats 400000 in
theorem right (x : BitVec 32) (n : Int) (h1 : 0 < n) (h2 : n < 32) (w : World) :
    Calls Tryz.prog 139 #[V x, .int .i64 n] w fun e w' => e = .returned (V (rotr x n.toNat)) ∧ w' = w := by
  have e : (-n % 32).toNat = (32 - n.toNat % 32) % 32 := by omega
  have hl := left x (-n) (by omega) (by omega) w
  rw [e] at hl
  have HL := Lib.hid hl
  clear hl e
  go_enter Tryz.func139, Tryz.ntmps139
  go_wp2_with (go_at_call 148; refine HL.out.mono ?_; rintro e w1 ⟨rfl, rfl⟩)
  go_ret
  exact ⟨rfl, rfl⟩

set_option maxHeartbeats 400000 in
theorem turned (x : BitVec 32) (a b c : Int) (a1 : 0 < a) (a2 : a < 32) (b1 : 0 < b) (b2 : b < 32) (c1 : 0 < c) (c2 : c < 32) (w : World) :
    Calls Tryz.prog 128 #[V x, .int .i64 a, .int .i64 b, .int .i64 c] w fun e w' => e = .returned (V (rotr x a.toNat ^^^ rotr x b.toNat ^^^ rotr x c.toNat)) ∧ w' = w := by
  go_enter Tryz.func128, Tryz.ntmps128
  go_wp2_with (go_at_call 139; refine (right _ _ (by assumption) (by assumption) _).mono ?_; rintro e w1 ⟨rfl, rfl⟩)
  go_ret
  exact ⟨rfl, rfl⟩

theorem rotl_zero (x : BitVec 32) : rotl x 0 = x := by
  have h : x >>> 32 = 0#32 := by
    apply BitVec.eq_of_toNat_eq
    rw [BitVec.toNat_ushiftRight, Nat.shiftRight_eq_div_pow, Nat.div_eq_of_lt x.isLt]; rfl
  simp [rotl, h]
set_option maxHeartbeats 400000 in
theorem refLeft (x : BitVec 32) (n : Int) (_ : -1000 ≤ n) (_ : n ≤ 1000) (w : World) :
    Calls Tryz.prog 78 #[V x, .int .i64 n] w fun e w' => e = .returned (V (rotl x (n % 32).toNat)) ∧ w' = w := by
  have h1 : -32 < n.tmod 32 := Int.lt_tmod_of_pos n (by decide)
  have h2 : n.tmod 32 < 32 := Int.tmod_lt_of_pos n (by decide)
  have h3 : n.tmod 32 % 32 = n % 32 := by
    have := Int.tmod_add_mul_tdiv n 32
    omega
  obtain ⟨m, hm⟩ : ∃ m, m = (n % 32).toNat := ⟨_, rfl⟩
  have h4 : n % 32 = (m : Int) := by omega
  rw [← hm]
  have HM := Lib.hid hm
  have h5 : n.tmod 32 % 32 = (m : Int) := by omega
  have h6 : m < 32 := by omega
  clear hm h3 h4
  by_cases hz : m = 0
  · subst hz
    go_enter Tryz.func78, Tryz.ntmps78
    go_wp2_with fail
    go_ret
    exact ⟨by rw [rotl_zero]; rfl, rfl⟩
  · have hk : ((m : Int) == 0) = false := by simp; omega
    have h7 : (0 : Int) ≤ 32 - m := by omega
    go_enter Tryz.func78, Tryz.ntmps78
    go_wp2_with fail
    go_ret
    exact ⟨rfl, rfl⟩
end Go.Proofs.YtlbdbmnkjljohaaGreat
set_option linter.unusedSimpArgs false
set_option linter.unusedVariables false
namespace Go.Proofs.YtlbdbmnkjljohaaGreat
open Go.RowKit Go.Esc
theorem sched_length (b : Bs) (t : Nat) : (sched b t).length = t := by induction t <;> simp [sched, *]
/-- Words as cells. -/
def vs (l : List Wd) : List Value := l.map fun x => V x
theorem vs_length (l : List Wd) : (vs l).length = l.length := by simp [vs]
theorem vs_set (l : List Wd) (i : Nat) (x : Wd) : (vs l).set i (V x) = vs (l.set i x) := by simp [vs, List.map_set]
theorem vs_get (l : List Wd) (i : Nat) (h : i < l.length) : (vs l)[i]? = some (V (l.getD i 0)) := by
  simp [vs, List.getElem?_eq_getElem h]
theorem Row.word {w : World} {g : Nat} {e : TypeId} {l : List Wd} (h : Row w g e (vs l)) (j : Nat) (hj : j < l.length) : w.cell? ⟨g, j, none⟩ = some (V (l.getD j 0)) := by
  rw [h.cell' j (by rw [vs_length]; exact hj), vs_get l j hj]
theorem Row.newAt (w1 : World) (g : Nat) (c : Array Value) (e : TypeId) {xs : List Value} (hg : w1.heap.size = g) (h : c.toList = xs) : Row (w1.alloc (.cells c e)) g e xs := by
  subst hg; subst h; exact Row.new w1 c e
def schedArr (b : Bs) (t : Nat) : List Wd := sched b t ++ List.replicate (64 - t) 0
theorem schedArr_length (b : Bs) (t : Nat) (h : t ≤ 64) : (schedArr b t).length = 64 := by simp [schedArr, sched_length]; omega
theorem schedArr_set (b : Bs) (t : Nat) (h : t < 64) : (schedArr b t).set t (if t < 16 then word b t else nextW (sched b t) t) = schedArr b (t+1) := by
  obtain ⟨j, hj⟩ : ∃ j, 64 - t = j + 1 := ⟨63 - t, by omega⟩
  rw [schedArr, schedArr, hj, show 64 - (t + 1) = j by omega, List.replicate_succ, List.set_append]
  simp [sched_length, sched]
theorem schedArr_get (b : Bs) (t i : Nat) (h : i < t) : (schedArr b t).getD i 0 = (sched b t).getD i 0 := by
  simp only [schedArr, List.getD_eq_getElem?_getD]
  rw [List.getElem?_append_left (by rw [sched_length]; exact h)]
theorem sched_val (a x d y : Wd) : Value.int .u32 ((((wd a + Go.bits .xor .u32 (wd (rotr x 7 ^^^ rotr x 18)) (wd x / 8)) % 4294967296 + wd d) % 4294967296 + Go.bits .xor .u32 (wd (rotr y 17 ^^^ rotr y 19)) (wd y / 1024)) % 4294967296)
    = V (a + (rotr x 7 ^^^ rotr x 18 ^^^ x >>> 3) + d + (rotr y 17 ^^^ rotr y 19 ^^^ y >>> 10)) := by
  simp only [wd_shr3, wd_shr10, wd_xor, wd_add']
theorem word_of (b : Bs) (t : Nat) : (b.take (4 * t + 4)).drop (4 * t) = (b.drop (4 * t)).take 4 := by
  rw [List.drop_take]; congr 1; omega
set_option maxRecDepth 100000 in
set_option maxHeartbeats 1600000 in
theorem schedule (b : Bs) (hb : b.length = 64) (w : World) :
    Calls Tryz.prog 127 #[S b] w fun e w' => ∃ l, l = vs (sched b 64) ∧ e = .returned (.agg l.toArray) ∧ Pu w w' := by
  go_enter Tryz.func127, Tryz.ntmps127
  go_wp2_with fail
  go_loopw [7] (fun i wr => ∃ t : Nat, t ≤ 64 ∧ i = .int .i64 t ∧ Row wr w.heap.size 137 (vs (schedArr [] 0)) ∧ Row wr (w.heap.size + 1) 137 (vs (schedArr b t)) ∧ Below w.heap.size w wr) (fun i _ => 64 - (intOf i).toNat)
  case atStart =>
    refine ⟨0, by omega, rfl, (Row.new w _ _).alloc _, ?_, ((Below.refl _ _).alloc (Nat.le_refl _) _).alloc (by simp) _⟩
    exact Row.newAt _ _ _ _ (by simp) rfl
  case round =>
    obtain ⟨t, ht, rfl, hres, hrow, hbel⟩ := hrel
    by_cases hlt : t < 64
    · have hl := schedArr_length b t ht
      have hnext := schedArr_set b t hlt
      by_cases h16 : t < 16
      · rw [if_pos h16] at hnext
        have hbig := fun w => big ((b.take (4 * t + 4)).drop (4 * t)) w (by simp; omega)
        have HB := Lib.hid hbig
        have hs1 : (4 : Int) * t ≤ 4 * t + 4 := by omega
        have hs2 : (4 : Int) * t + 4 ≤ b.length := by omega
        have hs0 : (0 : Int) ≤ 4 * t := by omega
        have hs5 : (0 : Int) ≤ 4 * t + 4 := by omega
        have hs6 : (0 : Int) ≤ t := by omega
        have hs3 : ((4 : Int) * t).toNat = 4 * t := by omega
        have hs4 : ((4 : Int) * t + 4).toNat = 4 * t + 4 := by omega
        have HL := Lib.hid hb
        have HN := Lib.hid hnext
        clear hbig hb hnext
        go_wp2_with (go_at_call 130; refine (HB.out _).mono ?_; rintro e w1 ⟨rfl, hp1⟩; replace hrow := hrow.pu hp1; replace hres := hres.pu hp1; replace hbel := hbel.trans (Below.mono hp1 hbel.size); have hc := Row.word hrow t (by omega); have hf := hrow.frozen t (by rw [vs_length]; omega))
        go_roundw
        case rel =>
          refine ⟨t + 1, by omega, by go_num, hres.setOther _ _ (by simp), ?_, hbel.setCell (by simp) _⟩
          have := hrow.set t (V (word b t))
          rw [vs_set, HN.out] at this
          rw [word_of]
          exact this
        case measure => simp [intOf]; omega
      · have h16' : (16 : Int) ≤ t := by omega
        have e15 : ((t : Int) - 15).toNat = t - 15 := by omega
        have e2 : ((t : Int) - 2).toNat = t - 2 := by omega
        have e16 : ((t : Int) - 16).toNat = t - 16 := by omega
        have e7 : ((t : Int) - 7).toNat = t - 7 := by omega
        have f15 : (0 : Int) ≤ t - 15 := by omega
        have f2 : (0 : Int) ≤ t - 2 := by omega
        have f16 : (0 : Int) ≤ t - 16 := by omega
        have f7 : (0 : Int) ≤ t - 7 := by omega
        have g15 : (t : Int) - 15 < 64 := by omega
        have g2 : (t : Int) - 2 < 64 := by omega
        have g16 : (t : Int) - 16 < 64 := by omega
        have g7 : (t : Int) - 7 < 64 := by omega
        have i15 : IntKind.i64.wrap ((t : Int) - 15) = t - 15 := by rw [IntKind.wrap_i64]; omega
        have i2 : IntKind.i64.wrap ((t : Int) - 2) = t - 2 := by rw [IntKind.wrap_i64]; omega
        have i16 : IntKind.i64.wrap ((t : Int) - 16) = t - 16 := by rw [IntKind.wrap_i64]; omega
        have i7 : IntKind.i64.wrap ((t : Int) - 7) = t - 7 := by rw [IntKind.wrap_i64]; omega
        have hcall : ∀ args w, (callFunc 139 args).run Tryz.prog w = .ok (.enter 139 args) w := fun args w => run_callFunc_body Tryz.func139 (by kernel_rfl) (by kernel_rfl) args w
        have h0t : (0 : Int) ≤ t := by omega
        have h64t : (t : Int) < 64 := by omega
        have q15 : (15 : Int) ≤ t := by omega
        have q2 : (2 : Int) ≤ t := by omega
        have q7 : (7 : Int) ≤ t := by omega
        have h16n : decide ((t : Int) < 16) = false := by simp; omega
        rw [if_neg h16] at hnext
        have HN := Lib.hid hnext
        have HL := Lib.hid hb
        clear hb hnext
        go_wp2_with fail
        apply region_pu (Φs := (Is _ :: Is _ :: Is _ :: Is _ :: Is _ :: Is _ :: Is _ :: Is _ :: Is _ :: Is _ :: [])) (hm := by kernel_rfl) (hE := by kernel_rfl) (hD := by kernel_rfl) (hsize := by kernel_rfl)
        case hop =>
          refine ⟨?_, ?_, ?_, ?_, ?_, ?_, ?_, ?_, ?_, ?_, trivial⟩
          · intro a' w' hs hp he
            have e4 := hs 4 (by kernel_rfl)
            try simp [Is, Region.binds] at he
            exact op_val rfl (wanted_none rfl) (by first | (go_simp; done) | (go_simp; rfl) | (simp [execOp, Act.eval, go_sem, *]; done) | (simp [execOp, Act.eval, go_sem, *]; rfl)) rfl (Pu.refl _)
          · intro a' w' hs hp he
            try simp [Is, Region.binds] at he
            exact op_val rfl (wanted_none rfl) (by first | (go_simp; done) | (go_simp; rfl) | (simp [execOp, Act.eval, go_sem, *]; done) | (simp [execOp, Act.eval, go_sem, *]; rfl)) rfl (Pu.refl _)
          · intro a' w' hs hp he
            have e3 := hs 3 (by kernel_rfl)
            try simp [Is, Region.binds] at he
            exact op_val rfl (wanted_none rfl) (by first | (go_simp; done) | (go_simp; rfl) | (simp [execOp, Act.eval, go_sem, *]; done) | (simp [execOp, Act.eval, go_sem, *]; rfl)) rfl (Pu.refl _)
          · intro a' w' hs hp he
            try simp [Is, Region.binds] at he
            have c := Row.word (hrow.pu hp) (t - 15) (by omega); exact op_val rfl (wanted_none rfl) (by first | (go_simp; done) | (go_simp; rfl)) rfl (Pu.refl _)
          · intro a' w' hs hp he
            have e4 := hs 4 (by kernel_rfl)
            try simp [Is, Region.binds] at he
            exact op_val rfl (wanted_none rfl) (by first | (go_simp; done) | (go_simp; rfl) | (simp [execOp, Act.eval, go_sem, *]; done) | (simp [execOp, Act.eval, go_sem, *]; rfl)) rfl (Pu.refl _)
          · intro a' w' hs hp he
            try simp [Is, Region.binds] at he
            exact op_val rfl (wanted_none rfl) (by first | (go_simp; done) | (go_simp; rfl) | (simp [execOp, Act.eval, go_sem, *]; done) | (simp [execOp, Act.eval, go_sem, *]; rfl)) rfl (Pu.refl _)
          · intro a' w' hs hp he
            have e3 := hs 3 (by kernel_rfl)
            try simp [Is, Region.binds] at he
            exact op_val rfl (wanted_none rfl) (by first | (go_simp; done) | (go_simp; rfl) | (simp [execOp, Act.eval, go_sem, *]; done) | (simp [execOp, Act.eval, go_sem, *]; rfl)) rfl (Pu.refl _)
          · intro a' w' hs hp he
            try simp [Is, Region.binds] at he
            have c := Row.word (hrow.pu hp) (t - 2) (by omega); exact op_val rfl (wanted_none rfl) (by first | (go_simp; done) | (go_simp; rfl)) rfl (Pu.refl _)
          · intro a' w' hs hp he
            try simp [Is, Region.binds] at he
            exact op_val rfl (wanted_none rfl) (by first | (go_simp; done) | (go_simp; rfl) | (simp [execOp, Act.eval, go_sem, *]; done) | (simp [execOp, Act.eval, go_sem, *]; rfl)) rfl (Pu.refl _)
          · intro a' w' hs hp he
            try simp [Is, Region.binds] at he
            exact op_val rfl (wanted_none rfl) (by first | (go_simp; done) | (go_simp; rfl) | (simp [execOp, Act.eval, go_sem, *]; done) | (simp [execOp, Act.eval, go_sem, *]; rfl)) rfl (Pu.refl _)
        case hend =>
          intro a' w' hdef hsz hs hp hall
          obtain ⟨r0, r1, r2, r3, r4, r5, r6, r7, r8, r9, -⟩ := hall
          have hA := agree_done (agree_step (agree_step (agree_step (agree_step (agree_step (agree_step (agree_step (agree_step (agree_step (agree_step (agree_init [23, 24, 25, 26, 27, 28, 29, 30, 5, 6] hsz hs (by kernel_rfl)) r0) r1) r2) r3) r4) r5) r6) r7) r8) r9)
          have ha := act_of hA hdef
          rw [ha]
          clear ha hA hs hsz hdef r0 r1 r2 r3 r4 r5 r6 r7 r8 r9 
          (try simp only [List.setIfInBounds_toArray])
          (try dsimp only [List.set_cons_zero, List.set_cons_succ])
          (try simp only [Exit.then])
          replace hrow := hrow.pu hp
          replace hres := hres.pu hp
          replace hbel := hbel.trans (Below.mono hp hbel.size)
          clear hp
          go_wp2_with fail
          apply region_last (n := 29) (hn := by kernel_rfl) (hlast := rfl) (hU := by kernel_rfl) (Φs := (Is _ :: Is _ :: Is _ :: Is _ :: Is _ :: Is _ :: Is _ :: Is _ :: Is _ :: Is _ :: Is _ :: Is _ :: Is _ :: Is _ :: Is _ :: Is _ :: Is _ :: Is _ :: Is _ :: Is _ :: Is _ :: Is _ :: Is _ :: Is _ :: Is _ :: Is _ :: Is _ :: Is _ :: Is _ :: [])) (hm := by kernel_rfl) (hE := by kernel_rfl) (hD := by kernel_rfl) (hsize := by kernel_rfl)
          case hop =>
            refine ⟨?_, ?_, ?_, ?_, ?_, ?_, ?_, ?_, ?_, ?_, ?_, ?_, ?_, ?_, ?_, ?_, ?_, ?_, ?_, ?_, ?_, ?_, ?_, ?_, ?_, ?_, ?_, ?_, ?_, trivial⟩
            · intro a' w' hs hp he
              have e4 := hs 4 (by kernel_rfl)
              try simp [Is, Region.binds] at he
              exact op_val rfl (wanted_none rfl) (by first | (go_simp; done) | (go_simp; rfl) | (simp [execOp, Act.eval, go_sem, *]; done) | (simp [execOp, Act.eval, go_sem, *]; rfl)) rfl (Pu.refl _)
            · intro a' w' hs hp he
              have e4 := hs 4 (by kernel_rfl)
              try simp [Is, Region.binds] at he
              exact op_val rfl (wanted_none rfl) (by first | (go_simp; done) | (go_simp; rfl) | (simp [execOp, Act.eval, go_sem, *]; done) | (simp [execOp, Act.eval, go_sem, *]; rfl)) rfl (Pu.refl _)
            · intro a' w' hs hp he
              try simp [Is, Region.binds] at he
              exact op_val rfl (wanted_none rfl) (by first | (go_simp; done) | (go_simp; rfl) | (simp [execOp, Act.eval, go_sem, *]; done) | (simp [execOp, Act.eval, go_sem, *]; rfl)) rfl (Pu.refl _)
            · intro a' w' hs hp he
              have e3 := hs 3 (by kernel_rfl)
              try simp [Is, Region.binds] at he
              exact op_val rfl (wanted_none rfl) (by first | (go_simp; done) | (go_simp; rfl) | (simp [execOp, Act.eval, go_sem, *]; done) | (simp [execOp, Act.eval, go_sem, *]; rfl)) rfl (Pu.refl _)
            · intro a' w' hs hp he
              try simp [Is, Region.binds] at he
              have c := Row.word (hrow.pu hp) (t - 16) (by omega); exact op_val rfl (wanted_none rfl) (by first | (go_simp; done) | (go_simp; rfl)) rfl (Pu.refl _)
            · intro a' w' hs hp he
              have e5 := hs 5 (by kernel_rfl)
              try simp [Is, Region.binds] at he
              exact op_val rfl (wanted_none rfl) (by first | (go_simp; done) | (go_simp; rfl) | (simp [execOp, Act.eval, go_sem, *]; done) | (simp [execOp, Act.eval, go_sem, *]; rfl)) rfl (Pu.refl _)
            · intro a' w' hs hp he
              try simp [Is, Region.binds] at he
              exact op_callV (right _ 7 (by decide) (by decide) _) rfl (wanted_none rfl) (by first | (go_simp; done) | (go_simp; rfl)) rfl
            · intro a' w' hs hp he
              have e5 := hs 5 (by kernel_rfl)
              try simp [Is, Region.binds] at he
              exact op_val rfl (wanted_none rfl) (by first | (go_simp; done) | (go_simp; rfl) | (simp [execOp, Act.eval, go_sem, *]; done) | (simp [execOp, Act.eval, go_sem, *]; rfl)) rfl (Pu.refl _)
            · intro a' w' hs hp he
              try simp [Is, Region.binds] at he
              exact op_callV (right _ 18 (by decide) (by decide) _) rfl (wanted_none rfl) (by first | (go_simp; done) | (go_simp; rfl)) rfl
            · intro a' w' hs hp he
              try simp [Is, Region.binds] at he
              exact op_val rfl (wanted_none rfl) (by first | (go_simp; done) | (go_simp; rfl) | (simp [execOp, Act.eval, go_sem, *]; done) | (simp [execOp, Act.eval, go_sem, *]; rfl)) rfl (Pu.refl _)
            · intro a' w' hs hp he
              have e5 := hs 5 (by kernel_rfl)
              try simp [Is, Region.binds] at he
              exact op_val rfl (wanted_none rfl) (by first | (go_simp; done) | (go_simp; rfl) | (simp [execOp, Act.eval, go_sem, *]; done) | (simp [execOp, Act.eval, go_sem, *]; rfl)) rfl (Pu.refl _)
            · intro a' w' hs hp he
              try simp [Is, Region.binds] at he
              exact op_val rfl (wanted_none rfl) (by first | (go_simp; done) | (go_simp; rfl) | (simp [execOp, Act.eval, go_sem, *]; done) | (simp [execOp, Act.eval, go_sem, *]; rfl)) rfl (Pu.refl _)
            · intro a' w' hs hp he
              try simp [Is, Region.binds] at he
              exact op_val rfl (wanted_none rfl) (by first | (go_simp; done) | (go_simp; rfl) | (simp [execOp, Act.eval, go_sem, *]; done) | (simp [execOp, Act.eval, go_sem, *]; rfl)) rfl (Pu.refl _)
            · intro a' w' hs hp he
              try simp [Is, Region.binds] at he
              exact op_val rfl (wanted_none rfl) (by first | (go_simp; done) | (go_simp; rfl) | (simp [execOp, Act.eval, go_sem, *]; done) | (simp [execOp, Act.eval, go_sem, *]; rfl)) rfl (Pu.refl _)
            · intro a' w' hs hp he
              have e4 := hs 4 (by kernel_rfl)
              try simp [Is, Region.binds] at he
              exact op_val rfl (wanted_none rfl) (by first | (go_simp; done) | (go_simp; rfl) | (simp [execOp, Act.eval, go_sem, *]; done) | (simp [execOp, Act.eval, go_sem, *]; rfl)) rfl (Pu.refl _)
            · intro a' w' hs hp he
              try simp [Is, Region.binds] at he
              exact op_val rfl (wanted_none rfl) (by first | (go_simp; done) | (go_simp; rfl) | (simp [execOp, Act.eval, go_sem, *]; done) | (simp [execOp, Act.eval, go_sem, *]; rfl)) rfl (Pu.refl _)
            · intro a' w' hs hp he
              have e3 := hs 3 (by kernel_rfl)
              try simp [Is, Region.binds] at he
              exact op_val rfl (wanted_none rfl) (by first | (go_simp; done) | (go_simp; rfl) | (simp [execOp, Act.eval, go_sem, *]; done) | (simp [execOp, Act.eval, go_sem, *]; rfl)) rfl (Pu.refl _)
            · intro a' w' hs hp he
              try simp [Is, Region.binds] at he
              have c := Row.word (hrow.pu hp) (t - 7) (by omega); exact op_val rfl (wanted_none rfl) (by first | (go_simp; done) | (go_simp; rfl)) rfl (Pu.refl _)
            · intro a' w' hs hp he
              try simp [Is, Region.binds] at he
              exact op_val rfl (wanted_none rfl) (by first | (go_simp; done) | (go_simp; rfl) | (simp [execOp, Act.eval, go_sem, *]; done) | (simp [execOp, Act.eval, go_sem, *]; rfl)) rfl (Pu.refl _)
            · intro a' w' hs hp he
              have e6 := hs 6 (by kernel_rfl)
              try simp [Is, Region.binds] at he
              exact op_val rfl (wanted_none rfl) (by first | (go_simp; done) | (go_simp; rfl) | (simp [execOp, Act.eval, go_sem, *]; done) | (simp [execOp, Act.eval, go_sem, *]; rfl)) rfl (Pu.refl _)
            · intro a' w' hs hp he
              try simp [Is, Region.binds] at he
              exact op_callV (right _ 17 (by decide) (by decide) _) rfl (wanted_none rfl) (by first | (go_simp; done) | (go_simp; rfl)) rfl
            · intro a' w' hs hp he
              have e6 := hs 6 (by kernel_rfl)
              try simp [Is, Region.binds] at he
              exact op_val rfl (wanted_none rfl) (by first | (go_simp; done) | (go_simp; rfl) | (simp [execOp, Act.eval, go_sem, *]; done) | (simp [execOp, Act.eval, go_sem, *]; rfl)) rfl (Pu.refl _)
            · intro a' w' hs hp he
              try simp [Is, Region.binds] at he
              exact op_callV (right _ 19 (by decide) (by decide) _) rfl (wanted_none rfl) (by first | (go_simp; done) | (go_simp; rfl)) rfl
            · intro a' w' hs hp he
              try simp [Is, Region.binds] at he
              exact op_val rfl (wanted_none rfl) (by first | (go_simp; done) | (go_simp; rfl) | (simp [execOp, Act.eval, go_sem, *]; done) | (simp [execOp, Act.eval, go_sem, *]; rfl)) rfl (Pu.refl _)
            · intro a' w' hs hp he
              have e6 := hs 6 (by kernel_rfl)
              try simp [Is, Region.binds] at he
              exact op_val rfl (wanted_none rfl) (by first | (go_simp; done) | (go_simp; rfl) | (simp [execOp, Act.eval, go_sem, *]; done) | (simp [execOp, Act.eval, go_sem, *]; rfl)) rfl (Pu.refl _)
            · intro a' w' hs hp he
              try simp [Is, Region.binds] at he
              exact op_val rfl (wanted_none rfl) (by first | (go_simp; done) | (go_simp; rfl) | (simp [execOp, Act.eval, go_sem, *]; done) | (simp [execOp, Act.eval, go_sem, *]; rfl)) rfl (Pu.refl _)
            · intro a' w' hs hp he
              try simp [Is, Region.binds] at he
              exact op_val rfl (wanted_none rfl) (by first | (go_simp; done) | (go_simp; rfl) | (simp [execOp, Act.eval, go_sem, *]; done) | (simp [execOp, Act.eval, go_sem, *]; rfl)) rfl (Pu.refl _)
            · intro a' w' hs hp he
              try simp [Is, Region.binds] at he
              exact op_val rfl (wanted_none rfl) (by first | (go_simp; done) | (go_simp; rfl) | (simp [execOp, Act.eval, go_sem, *]; done) | (simp [execOp, Act.eval, go_sem, *]; rfl)) rfl (Pu.refl _)
            · intro a' w' hs hp he
              have e3 := hs 3 (by kernel_rfl)
              try simp [Is, Region.binds] at he
              exact op_val rfl (wanted_none rfl) (by first | (go_simp; done) | (go_simp; rfl) | (simp [execOp, Act.eval, go_sem, *]; done) | (simp [execOp, Act.eval, go_sem, *]; rfl)) rfl (Pu.refl _)
          case hend =>
            intro a' w' hdef hsz hs hp hall
            obtain ⟨r0, r1, r2, r3, r4, r5, r6, r7, r8, r9, r10, r11, r12, r13, r14, r15, r16, r17, r18, r19, r20, r21, r22, r23, r24, r25, r26, r27, r28, -⟩ := hall
            have hA := agree_done (agree_step (agree_step (agree_step (agree_step (agree_step (agree_step (agree_step (agree_step (agree_step (agree_step (agree_step (agree_step (agree_step (agree_step (agree_step (agree_step (agree_step (agree_step (agree_step (agree_step (agree_step (agree_step (agree_step (agree_step (agree_step (agree_step (agree_step (agree_step (agree_step (agree_init [31, 32, 33, 34, 35, 36, 37, 38, 39, 40, 41, 42, 43, 44, 45, 46, 47, 48, 49, 50, 51, 52, 53, 54, 55, 56, 57, 58, 59] hsz hs (by kernel_rfl)) r0) r1) r2) r3) r4) r5) r6) r7) r8) r9) r10) r11) r12) r13) r14) r15) r16) r17) r18) r19) r20) r21) r22) r23) r24) r25) r26) r27) r28)
            have ha := act_of hA hdef
            rw [ha]
            clear ha hA hs hsz hdef r0 r1 r2 r3 r4 r5 r6 r7 r8 r9 r10 r11 r12 r13 r14 r15 r16 r17 r18 r19 r20 r21 r22 r23 r24 r25 r26 r27 r28 
            (try simp only [List.setIfInBounds_toArray])
            (try dsimp only [List.set_cons_zero, List.set_cons_succ])
            (try simp only [Exit.then])
            have hc := Row.word (hrow.pu hp) t (by omega); have hf := (hrow.pu hp).frozen t (by rw [vs_length]; omega)
            refine op_done rfl (wanted_none rfl) (by first | (go_simp; done) | (go_simp; rfl)) ?_
            (try simp only [Exit.inBlock, Exit.then])
            go_wp2_with fail
            go_roundw
            case rel =>
              replace hrow := hrow.pu hp
              replace hres := hres.pu hp
              replace hbel := hbel.trans (Below.mono hp hbel.size)
              refine ⟨t + 1, by omega, by go_num, hres.setOther _ _ (by simp), ?_, hbel.setCell (by simp) _⟩
              have := hrow.set t (V (nextW (sched b t) t))
              rw [vs_set, HN.out] at this
              have hx := fun n (hn : n < t) => schedArr_get b t n hn
              simp only [nextW, ← hx (t - 15) (by omega), ← hx (t - 2) (by omega), ← hx (t - 16) (by omega), ← hx (t - 7) (by omega), List.getD_eq_getElem?_getD] at this
              first | exact this | (rw [← sched_val] at this; exact this)
            case measure => simp [intOf]; omega
    · obtain rfl : t = 64 := by omega
      have hi : (Tryz.prog.info? 137).map (·.size) = some 64 := by kernel_rfl
      have hl64 : (vs (sched b 64)).length = 64 := by rw [vs_length, sched_length]
      have harr : schedArr b 64 = sched b 64 := by simp [schedArr]
      rw [harr] at hrow
      obtain ⟨l, hll⟩ : ∃ l, l = vs (sched b 64) := ⟨_, rfl⟩
      rw [← hll] at hrow hl64
      have hone : l.all (·.oneCell') = true := by rw [hll]; simp [vs, Value.oneCell']
      have htk : ((l.drop 0).take 64) = l := by rw [List.drop_zero, List.take_of_length_le (by omega)]
      have HLL := Lib.hid hll
      clear hll harr
      go_wp2_with (first | (refine wpList_load_part rfl 137 (.tmp 3) rfl (w.heap.size+1) 0 64 (by rfl) hrow Tryz.underlying137 rfl hi (by omega) ?_; rw [htk]) | (refine wpList_store_part rfl 137 (.tmp 2) (.tmp 61) rfl w.heap.size 0 l (by rfl) (by rfl) hres (by rw [hl64]; exact hi) (by rw [vs_length]; simp [schedArr_length]; omega) hone ?_; intro w1 hr1 hch))
      have hrl := hr1.load (P := Tryz.prog) 137 0 64 Tryz.underlying137 rfl hi (by rw [splice_length, vs_length]; simp [schedArr_length])
      rw [splice_all (by rw [hl64, vs_length]; simp [schedArr_length]), htk] at hrl
      (try simp only [Exit.inBlock, Exit.then])
      refine bodyPost_ret (results_cell_eq rfl _ _ rfl hrl) rfl ?_
      exact ⟨l, HLL.out, rfl, hch.below hbel (Nat.le_refl _)⟩
end Go.Proofs.YtlbdbmnkjljohaaGreat
set_option linter.unusedSimpArgs false
set_option linter.unusedVariables false
namespace Go.Esc
open Go Go.RowKit
theorem xorL_zero {a b : Bs} (h : a.length = b.length) : (∀ (k : Nat) (h1 : k < (xorL a b).length), (xorL a b)[k] = 0) ↔ a = b := by
  constructor
  · intro hz
    apply List.ext_getElem h
    intro k h1 h2
    have h3 := hz k (by rw [xorL_length]; omega)
    simp only [xorL, List.getElem_zipWith] at h3
    exact UInt8.xor_eq_zero_iff.1 h3
  · rintro rfl k h1
    simp only [xorL, List.getElem_zipWith]
    exact UInt8.xor_self
end Go.Esc
namespace Go.Proofs.YtlbdbmnkjljohaaGreat
open Go.RowKit Go.Esc
set_option maxRecDepth 100000 in
set_option maxHeartbeats 1600000 in
theorem add64 (a : Addr) (x : Int) (w : World) (hx : 0 ≤ x ∧ x < 1000000000) (hc : w.cell? a = some (.int .i64 x)) (hz : w.frozen? a = false) :
    Calls Tryz.prog 62 #[.pointer (some a), .int .i64 1] w fun e w' => e = .returned (.int .i64 (x + 1)) ∧ w' = w.setCell a (.int .i64 (x + 1)) := by
  have hs : (Op.intArith .add .i64 x 1).run Tryz.prog w = .ok (.int .i64 (x + 1)) w := by
    have : IntKind.i64.wrap (x + 1) = x + 1 := by rw [IntKind.wrap_i64]; omega
    show (Sem.pure (Value.int .i64 (IntKind.i64.wrap (x + 1)))).run _ w = _
    rw [this]; rfl
  have hadd := run_call_add (P := Tryz.prog) Tryz.func88 (by kernel_rfl) (by kernel_rfl) (by kernel_rfl) .i64 (by kernel_rfl) (y := 1) hc hz hs
  go_enter Tryz.func62, Tryz.ntmps62
  go_wp2_with fail
  go_ret
  exact ⟨rfl, rfl⟩
set_option maxRecDepth 100000 in
theorem load64 (a : Addr) (x : Int) (w : World) (hc : w.cell? a = some (.int .i64 x)) :
    Calls Tryz.prog 51 #[.pointer (some a)] w fun e w' => e = .returned (.int .i64 x) ∧ w' = w := by
  have hl := run_call_load (P := Tryz.prog) Tryz.func71 (by kernel_rfl) (by kernel_rfl) (by kernel_rfl) .i64 (by kernel_rfl) hc
  go_enter Tryz.func51, Tryz.ntmps51
  go_wp2_with fail
  go_ret
  exact ⟨rfl, rfl⟩
set_option maxRecDepth 100000 in
set_option maxHeartbeats 1600000 in
theorem same (a b : Bs) (h : a.length ≤ 1000000) (h2 : b.length ≤ 1000000) (w : World) :
    Calls Tryz.prog 53 #[S a, S b] w fun e w' => e = .returned (.bool (decide (a = b))) ∧ Pu w w' := by
  have hx := fun w => xor a b (.inl h) w
  obtain ⟨z, hz⟩ : ∃ z, z = xorL a b := ⟨_, rfl⟩
  have hzl : z.length ≤ 1000000 := by rw [hz, xorL_length]; omega
  rw [← hz] at hx
  have HX := Lib.hid hx
  have HZ := Lib.hid hz
  clear hx hz
  go_enter Tryz.func53, Tryz.ntmps53
  go_wp2_with (first
    | (go_at_call 72; refine (HX.out _).mono ?_; rintro e w1 ⟨rfl, hp1⟩)
    | (refine wpList_bytes _ rfl (.tmp 10) 9 42 5 rfl z (by first | rfl | simp [Act.eval]) Tryz.underlying9 Tryz.underlying42 Tryz.underlying5 ?_; intro w2 cap hrow hpu hcap))
  have hr0 := ((Row.newAt w w.heap.size _ _ rfl rfl).pu hp1).pu hpu
  have hb0 := (((Pu.refl w).alloc _).trans hp1).trans hpu
  have hs1 := hp1.size
  have hs0 : w.heap.size < w1.heap.size := by simp at hs1; omega
  clear hp1 hpu hcap hs1
  go_loopw [13] (fun i wr => ∃ (k x : Nat), k ≤ z.length ∧ x ≤ k ∧ (x = 0 ↔ ∀ j, j < k → z.getD j 0 = 0) ∧ i = .int .i64 (k : Int) ∧ Row wr w.heap.size 88 [.int .i64 (x : Int)] ∧ Row wr w1.heap.size 5 (cells z) ∧ Below w.heap.size w wr) (fun i _ => z.length - (intOf i).toNat)
  case atStart => exact ⟨0, 0, by omega, by omega, ⟨fun _ j h => absurd h (by omega), fun _ => rfl⟩, rfl, hr0, hrow, hb0⟩
  case round =>
    clear hr0 hrow hb0
    obtain ⟨k, x, hk, hxk, hiff, rfl, hr, hrow, hbel⟩ := hrel
    by_cases hlt : k < z.length
    · obtain ⟨c, hc⟩ : ∃ c, z[k] = c := ⟨_, rfl⟩
      have hcc := Row.byte hrow k hlt
      rw [hc] at hcc
      have hgk : z.getD k 0 = c := by simp [List.getD_eq_getElem?_getD, List.getElem?_eq_getElem hlt, hc]
      have HI := Lib.hid hiff
      have HGK := Lib.hid hgk
      clear hc hgk hiff
      by_cases hcz : c = 0
      · subst hcz
        go_wp2_with fail
        go_roundw
        case rel =>
          refine ⟨k + 1, x, by omega, by omega, ?_, by go_num, hr, hrow, hbel⟩
          rw [HI.out]
          constructor
          · intro h j hj
            by_cases hjk : j = k
            · subst hjk; exact HGK.out
            · exact h j (by omega)
          · intro h j hj; exact h j (by omega)
        case measure => simp [intOf]; omega
      · have hne : ¬ ((c.toNat : Int) = 0) := by
          intro h
          exact hcz (UInt8.toNat_inj.1 (by simpa using (by omega : c.toNat = 0)))
        have hne2 : ((c.toNat : Int) == 0) = false := by simp; intro h; exact hne (by omega)
        have c0 := hr.cell 0 (by simp)
        have f0 := hr.frozen 0 (by simp)
        simp at c0
        go_wp2_with (go_at_call 62; refine (add64 ⟨w.heap.size, 0, none⟩ (x : Int) _ (by omega) c0 f0).mono ?_; rintro e w3 ⟨rfl, rfl⟩)
        go_roundw
        case rel =>
          refine ⟨k + 1, x + 1, by omega, by omega, ?_, by go_num, ?_, hrow.setOther _ _ (by simp; omega), hbel.setCell (by simp) _⟩
          · constructor
            · intro h; omega
            · intro h; exact absurd ((HGK.out).symm.trans (h k (by omega))) hcz
          · exact hr.set 0 _
        case measure => simp [intOf]; omega
    · obtain rfl : k = z.length := by omega
      have c0 := hr.cell 0 (by simp)
      simp at c0
      have hfin : ∀ hl : a.length = b.length, (x = 0 ↔ a = b) := by
        intro hl
        rw [hiff, ← xorL_zero hl, ← HZ.out]
        constructor
        · intro h k hk
          have := h k hk
          rwa [List.getD_eq_getElem?_getD, List.getElem?_eq_getElem hk] at this
        · intro h k hk
          rw [List.getD_eq_getElem?_getD, List.getElem?_eq_getElem hk]; exact h k hk
      have HF := Lib.hid hfin
      clear hfin hiff
      by_cases hx0 : x = 0
      · by_cases hl : a.length = b.length
        · have hd : decide (a = b) = true := by simp; exact (HF.out hl).1 hx0
          have hl' : (a.length : Int) = b.length := by omega
          subst hx0
          have HD := Lib.hid hd
          clear hd
          go_wp2_with (go_at_call 51; refine (load64 ⟨w.heap.size, 0, none⟩ _ _ c0).mono ?_; rintro e w3 ⟨rfl, rfl⟩)
          go_ret
          exact ⟨by rw [HD.out]; rfl, hbel⟩
        · have hd : decide (a = b) = false := by simp; rintro rfl; exact hl rfl
          have hl' : ¬ ((a.length : Int) = b.length) := by omega
          have hl2 : ((a.length : Int) == b.length) = false := by simp; omega
          subst hx0
          have HD := Lib.hid hd
          clear hd
          go_wp2_with (go_at_call 51; refine (load64 ⟨w.heap.size, 0, none⟩ _ _ c0).mono ?_; rintro e w3 ⟨rfl, rfl⟩)
          go_ret
          exact ⟨by rw [HD.out]; rfl, hbel⟩
      · have hd : decide (a = b) = false := by
          simp; rintro rfl; exact hx0 ((HF.out rfl).2 rfl)
        have hxi : ¬ ((x : Int) = 0) := by omega
        have hxi2 : ((x : Int) == 0) = false := by simp; omega
        have HD := Lib.hid hd
        clear hd
        go_wp2_with (go_at_call 51; refine (load64 ⟨w.heap.size, 0, none⟩ _ _ c0).mono ?_; rintro e w3 ⟨rfl, rfl⟩)
        go_ret
        exact ⟨by rw [HD.out]; rfl, hbel⟩
end Go.Proofs.YtlbdbmnkjljohaaGreat
