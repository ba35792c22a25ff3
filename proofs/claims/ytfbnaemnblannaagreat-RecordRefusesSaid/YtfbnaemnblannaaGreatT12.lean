/- Limbs: sums, products, the number below the modulus, limbs of bytes. Limbs: the number below the modulus, limbs of bytes; the first half of a key. -/
import Derived.Test.YtfbnaemnblannaaGreatT11
set_option linter.unusedSimpArgs false
set_option linter.unusedVariables false
set_option linter.unusedSimpArgs false
set_option linter.unusedVariables false
namespace Go.Esc
open Go Go.RowKit
def plusTo (x y : List Nat) (i : Nat) : List Nat := (List.range 5).map fun k => if k < i then x.getD k 0 + y.getD k 0 else x.getD k 0
theorem plusTo_length (x y : List Nat) (i : Nat) : (plusTo x y i).length = 5 := by simp [plusTo]
theorem plusTo_get (x y : List Nat) (i : Nat) (h : i < 5) : (plusTo x y i).getD i 0 = x.getD i 0 := by simp [plusTo, h]
theorem plusTo_zero (x y : List Nat) (h : x.length = 5) : plusTo x y 0 = x := by
  obtain ⟨a, b, c, d, e, rfl⟩ := five x h; rfl
theorem plusTo_all (x y : List Nat) : plusTo x y 5 = plus5 x y := rfl
theorem plusTo_set (x y : List Nat) (i : Nat) (h : i < 5) : (plusTo x y i).set i (x.getD i 0 + y.getD i 0) = plusTo x y (i+1) := by
  rcases (by omega : i = 0 ∨ i = 1 ∨ i = 2 ∨ i = 3 ∨ i = 4) with rfl | rfl | rfl | rfl | rfl <;> rfl
theorem mulAt_length (x y : List Nat) (i j : Nat) : (mulAt x y i j).length = 5 := by simp [mulAt]
theorem mulAt_get (x y : List Nat) (i j : Nat) (h : i < 5) : (mulAt x y i j).getD i 0 = col x y i j := by simp [mulAt, h]
theorem mulAt_set (x y : List Nat) (i j : Nat) (h : i < 5) : (mulAt x y i j).set i (col x y i (j+1)) = mulAt x y i (j+1) := by
  rcases (by omega : i = 0 ∨ i = 1 ∨ i = 2 ∨ i = 3 ∨ i = 4) with rfl | rfl | rfl | rfl | rfl <;> rfl
theorem mulAt_next (x y : List Nat) (i : Nat) (h : i < 5) : mulAt x y i 5 = mulAt x y (i+1) 0 := by
  rcases (by omega : i = 0 ∨ i = 1 ∨ i = 2 ∨ i = 3 ∨ i = 4) with rfl | rfl | rfl | rfl | rfl <;> rfl
theorem mulAt_zero (x y : List Nat) : mulAt x y 0 0 = [0, 0, 0, 0, 0] := rfl
theorem or_low (k q m : Nat) (hq : q < 2 ^ k) (h1 : q + m * 2 ^ k < 18446744073709551616) : Go.bits .or .u64 (q : Int) ((m * 2 ^ k : Nat) : Int) = ((q + m * 2 ^ k : Nat) : Int) := by
  rw [u64_or_nat _ _ (by omega) (by omega), Nat.or_comm, nat_join k _ _ (by simp) hq, Nat.add_comm]
end Go.Esc
namespace Go.Proofs.YtfbnaemnblannaaGreat
open Go.RowKit Go.Esc
set_option maxRecDepth 100000 in
set_option maxHeartbeats 1600000 in
theorem plusF (x y : List Nat) (hxb : Le5 67108863 x) (hyb : Le5 67108863 y) (xs ys R : List Value) (hxs : xs = us x) (hys : ys = us y) (hR : R = us (plus5 x y)) (w : World) :
    Calls Tryz.prog 91 #[.agg xs.toArray, .agg ys.toArray] w fun e w' => e = .returned (.agg R.toArray) ∧ Pu w w' := by
  have hi5 : (Tryz.prog.info? 139).map (·.size) = some 5 := by kernel_rfl
  have hx5 := hxb.1
  have hy5 := hyb.1
  have HX := Lib.hid hxs
  have HY := Lib.hid hys
  have HR := Lib.hid hR
  clear hxs hys hR
  go_enter Tryz.func91, Tryz.ntmps91
  go_wp2_with (first
    | (refine wpList_box rfl 139 (.tmp 0) rfl xs (by rfl) ?_; intro w0 hrx hp0 hz0)
    | (refine wpList_box rfl 139 (.tmp 1) rfl ys (by rfl) ?_; intro w1 hry hp1 hz1))
  rw [HX.out] at hrx
  rw [HY.out] at hry
  have hs1 : w1.heap.size = w.heap.size + 2 := by omega
  rw [hz0] at hry
  go_loopw [6] (fun i wr => ∃ k : Nat, k ≤ 5 ∧ i = .int .i64 (k : Int) ∧ Row wr w.heap.size 139 (us (plusTo x y k)) ∧ Row wr (w.heap.size + 1) 139 (us y) ∧ Row wr (w.heap.size + 2) 139 (us [0, 0, 0, 0, 0]) ∧ Below w.heap.size w wr) (fun i _ => 5 - (intOf i).toNat)
  case atStart => exact ⟨0, by omega, rfl, by rw [plusTo_zero x y hx5]; exact (hrx.pu hp1).alloc _, hry.alloc _, Row.newAt _ _ _ _ hs1 rfl, (hp0.trans hp1).alloc _⟩
  case round =>
    clear hrx hry hp0 hp1
    obtain ⟨k, hk, rfl, hrx, hry, hres, hbel⟩ := hrel
    by_cases hlt : k < 5
    · have hset := plusTo_set x y k hlt
      have hga := getD_le hxb k
      have hgb := getD_le hyb k
      obtain ⟨a, ha⟩ : ∃ a, a = x.getD k 0 := ⟨_, rfl⟩
      obtain ⟨b, hb⟩ : ∃ b, b = y.getD k 0 := ⟨_, rfl⟩
      obtain ⟨v, hv⟩ : ∃ v, v = a + b := ⟨_, rfl⟩
      rw [← ha] at hga hset
      rw [← hb] at hgb hset
      rw [← hv] at hset
      have e1 : (a : Int) + b = v := by omega
      have e2 : IntKind.u64.wrap (v : Int) = v := by rw [IntKind.wrap_u64]; omega
      have hk0 : (0 : Int) ≤ k := by omega
      have hk5 : (k : Int) < 5 := by omega
      have HA := Lib.hid ha
      have HB := Lib.hid hb
      have HS := Lib.hid hset
      clear ha hb hv hset
      go_wp2_with fail
      apply region_last (n := 8) (hn := by kernel_rfl) (hlast := rfl) (hU := by kernel_rfl) (Φs := (Is _ :: Is _ :: Is _ :: Is _ :: Is _ :: Is _ :: Is _ :: Is _ :: [])) (hm := by kernel_rfl) (hE := by kernel_rfl) (hD := by kernel_rfl) (hsize := by kernel_rfl)
      case hop =>
        refine ⟨?_, ?_, ?_, ?_, ?_, ?_, ?_, ?_, trivial⟩
        · intro a' w' hs hp he
          have e5 := hs 5 (by kernel_rfl)
          try simp [Is, Region.binds] at he
          exact op_val rfl (wanted_none rfl) (by first | (go_simp; done) | (go_simp; rfl) | (simp [execOp, Act.eval, go_sem, *]; done) | (simp [execOp, Act.eval, go_sem, *]; rfl)) rfl (Pu.refl _)
        · intro a' w' hs hp he
          have e2 := hs 2 (by kernel_rfl)
          try simp [Is, Region.binds] at he
          exact op_val rfl (wanted_none rfl) (by first | (go_simp; done) | (go_simp; rfl) | (simp [execOp, Act.eval, go_sem, *]; done) | (simp [execOp, Act.eval, go_sem, *]; rfl)) rfl (Pu.refl _)
        · intro a' w' hs hp he
          try simp [Is, Region.binds] at he
          have c := Row.limb (hrx.pu hp) k (by rw [plusTo_length]; omega); rw [plusTo_get _ _ _ hlt, ← HA.out] at c; exact op_val rfl (wanted_none rfl) (by first | (go_simp; done) | (go_simp; rfl)) rfl (Pu.refl _)
        · intro a' w' hs hp he
          have e5 := hs 5 (by kernel_rfl)
          try simp [Is, Region.binds] at he
          exact op_val rfl (wanted_none rfl) (by first | (go_simp; done) | (go_simp; rfl) | (simp [execOp, Act.eval, go_sem, *]; done) | (simp [execOp, Act.eval, go_sem, *]; rfl)) rfl (Pu.refl _)
        · intro a' w' hs hp he
          have e3 := hs 3 (by kernel_rfl)
          try simp [Is, Region.binds] at he
          exact op_val rfl (wanted_none rfl) (by first | (go_simp; done) | (go_simp; rfl) | (simp [execOp, Act.eval, go_sem, *]; done) | (simp [execOp, Act.eval, go_sem, *]; rfl)) rfl (Pu.refl _)
        · intro a' w' hs hp he
          try simp [Is, Region.binds] at he
          have c := Row.limb (hry.pu hp) k (by omega); rw [← HB.out] at c; exact op_val rfl (wanted_none rfl) (by first | (go_simp; done) | (go_simp; rfl)) rfl (Pu.refl _)
        · intro a' w' hs hp he
          try simp [Is, Region.binds] at he
          exact op_val rfl (wanted_none rfl) (by first | (go_simp; done) | (go_simp; rfl) | (simp [execOp, Act.eval, go_sem, *]; done) | (simp [execOp, Act.eval, go_sem, *]; rfl)) rfl (Pu.refl _)
        · intro a' w' hs hp he
          have e2 := hs 2 (by kernel_rfl)
          try simp [Is, Region.binds] at he
          exact op_val rfl (wanted_none rfl) (by first | (go_simp; done) | (go_simp; rfl) | (simp [execOp, Act.eval, go_sem, *]; done) | (simp [execOp, Act.eval, go_sem, *]; rfl)) rfl (Pu.refl _)
      case hend =>
        intro a' w' hdef hsz hs hp hall
        obtain ⟨r0, r1, r2, r3, r4, r5, r6, r7, -⟩ := hall
        have hA := agree_done (agree_step (agree_step (agree_step (agree_step (agree_step (agree_step (agree_step (agree_step (agree_init [9, 10, 11, 12, 13, 14, 15, 16] hsz hs (by kernel_rfl)) r0) r1) r2) r3) r4) r5) r6) r7)
        have ha := act_of hA hdef
        rw [ha]
        clear ha hA hs hsz hdef r0 r1 r2 r3 r4 r5 r6 r7 
        (try simp only [List.setIfInBounds_toArray])
        (try dsimp only [List.set_cons_zero, List.set_cons_succ])
        (try simp only [Exit.then])
        have c := Row.limb (hrx.pu hp) k (by rw [plusTo_length]; omega); rw [plusTo_get _ _ _ hlt, ← HA.out] at c; have hf := (hrx.pu hp).frozen k (by rw [us_length, plusTo_length]; omega)
        refine op_done rfl (wanted_none rfl) (by first | (go_simp; done) | (go_simp; rfl)) ?_
        (try simp only [Exit.inBlock, Exit.then])
        go_wp2_with fail
        go_roundw
        case rel =>
          replace hrx := hrx.pu hp
          replace hry := hry.pu hp
          replace hres := hres.pu hp
          replace hbel := hbel.trans (Below.mono hp hbel.size)
          have h1 := hrx.set k (.int .u64 (v : Int))
          rw [us_set, HS.out] at h1
          first | exact ⟨k + 1, by omega, by go_num, h1, hry.setOther _ _ (by simp), hres.setOther _ _ (by simp), hbel.setCell (by simp) _⟩ | ((repeat apply Exists.intro); exact ⟨⟨k + 1, by omega, by go_num, h1, hry.setOther _ _ (by simp), hres.setOther _ _ (by simp), hbel.setCell (by simp) _⟩, rfl⟩)
        case measure => simp [intOf]; omega
    · obtain rfl : k = 5 := by omega
      have hx := hrx
      rw [plusTo_all] at hx
      obtain ⟨z, hz⟩ : ∃ z, z = us (plus5 x y) := ⟨_, rfl⟩
      have hz5 : z.length = 5 := by rw [hz, us_length]; rfl
      have hz1 : z.all (·.oneCell') = true := by rw [hz]; exact us_one _
      have htk : ((z.drop 0).take 5) = z := by rw [List.drop_zero, List.take_of_length_le (by omega)]
      rw [← hz] at hx
      have hRz : R = z := by rw [HR.out, hz]
      have HRZ := Lib.hid hRz
      clear hz hRz hrx
      go_wp2_with (first
        | (refine wpList_load_part rfl 139 (.tmp 2) rfl (w.heap.size) 0 5 (by rfl) hx Tryz.underlying139 rfl hi5 (by omega) ?_; rw [htk])
        | (refine wpList_store_part rfl 139 (.tmp 4) (.tmp 18) rfl (w.heap.size + 2) 0 z (by rfl) (by rfl) hres (by rw [hz5]; exact hi5) (by rw [hz5]; decide) hz1 ?_; intro wl hr1 hch))
      rw [splice_all (by rw [hz5]; rfl)] at hr1
      have hrl := hr1.load (P := Tryz.prog) 139 0 5 Tryz.underlying139 rfl hi5 (by omega)
      rw [htk] at hrl
      (try simp only [Exit.inBlock, Exit.then])
      refine bodyPost_ret (results_cell_eq rfl _ _ rfl hrl) rfl ?_
      exact ⟨by rw [HRZ.out], hch.below hbel (by omega)⟩
set_option maxRecDepth 100000 in
set_option maxHeartbeats 3200000 in
theorem timesF (x y : List Nat) (hxb : Le5 134217726 x) (hyb : Le5 67108863 y) (xs ys R : List Value) (hxs : xs = us x) (hys : ys = us y) (hR : R = us (carryN (mulN x y))) (w : World) :
    Calls Tryz.prog 92 #[.agg xs.toArray, .agg ys.toArray] w fun e w' => e = .returned (.agg R.toArray) ∧ Pu w w' := by
  have hi5 : (Tryz.prog.info? 139).map (·.size) = some 5 := by kernel_rfl
  have hx5 := hxb.1
  have hy5 := hyb.1
  have HX := Lib.hid hxs
  have HY := Lib.hid hys
  have HR := Lib.hid hR
  clear hxs hys hR
  go_enter Tryz.func92, Tryz.ntmps92
  go_wp2_with (first
    | (refine wpList_box rfl 139 (.tmp 0) rfl xs (by rfl) ?_; intro w0 hrx hp0 hz0)
    | (refine wpList_box rfl 139 (.tmp 1) rfl ys (by rfl) ?_; intro w1 hry hp1 hz1))
  rw [HX.out] at hrx
  rw [HY.out] at hry
  have hs1 : w1.heap.size = w.heap.size + 2 := by omega
  rw [hz0] at hry
  go_loopw [8] (fun i wr => ∃ k : Nat, k ≤ 5 ∧ i = .int .i64 (k : Int) ∧ Row wr w.heap.size 139 (us x) ∧ Row wr (w.heap.size + 1) 139 (us y) ∧ Row wr (w.heap.size + 2) 139 (us [0, 0, 0, 0, 0]) ∧ Row wr (w.heap.size + 3) 139 (us (mulAt x y k 0)) ∧ Below w.heap.size w wr) (fun i _ => 5 - (intOf i).toNat)
  case atStart => exact ⟨0, by omega, rfl, ((hrx.pu hp1).alloc _).alloc _, (hry.alloc _).alloc _, (Row.newAt _ _ _ _ hs1 rfl).alloc _, Row.newAt _ _ _ _ (by simp; omega) rfl, Pu.alloc (Pu.alloc (hp0.trans hp1) _) _⟩
  case round =>
    clear hrx hry hp0 hp1
    obtain ⟨i, hi, rfl, hrx, hry, hres, hro, hbel⟩ := hrel
    by_cases hlt : i < 5
    · have hi0 : (0 : Int) ≤ i := by omega
      have hi5' : (i : Int) < 5 := by omega
      go_wp2_with fail
      go_loopw [11] (fun v wq => ∃ j : Nat, j ≤ 5 ∧ v = .int .i64 (j : Int) ∧ Row wq w.heap.size 139 (us x) ∧ Row wq (w.heap.size + 1) 139 (us y) ∧ Row wq (w.heap.size + 2) 139 (us [0, 0, 0, 0, 0]) ∧ Row wq (w.heap.size + 3) 139 (us (mulAt x y i j)) ∧ Below w.heap.size w wq) (fun v _ => 5 - (intOf v).toNat)
      case atStart => exact ⟨0, by omega, rfl, hrx, hry, hres, hro, hbel⟩
      case round =>
        clear hrx hry hres hro hbel
        obtain ⟨j, hj, rfl, hrx, hry, hres, hro, hbel⟩ := hrel
        by_cases hjt : j < 5
        · have hset := mulAt_set x y i j hlt
          have hcl := col_le hxb hyb i j
          have hga := getD_le hxb j
          have hj0 : (0 : Int) ≤ j := by omega
          have hj5 : (j : Int) < 5 := by omega
          have hcs : col x y i (j+1) = col x y i j + tm x y i j := rfl
          by_cases hji : j ≤ i
          · have htm : tm x y i j = x.getD j 0 * y.getD (i - j) 0 := by rw [tm, if_pos hji]
            obtain ⟨d, hd⟩ : ∃ d, d = i - j := ⟨_, rfl⟩
            have hgb := getD_le hyb d
            rw [← hd] at htm
            obtain ⟨a, ha⟩ : ∃ a, a = x.getD j 0 := ⟨_, rfl⟩
            obtain ⟨b, hb⟩ : ∃ b, b = y.getD d 0 := ⟨_, rfl⟩
            obtain ⟨o, ho⟩ : ∃ o, o = col x y i j := ⟨_, rfl⟩
            obtain ⟨p, hp⟩ : ∃ p, p = a * b := ⟨_, rfl⟩
            obtain ⟨v, hv⟩ : ∃ v, v = o + p := ⟨_, rfl⟩
            rw [← ha] at hga htm
            rw [← hb] at hgb htm
            rw [← hp] at htm
            rw [htm, ← ho, ← hv] at hcs
            rw [hcs] at hset
            rw [← ho] at hcl
            have hpl : p ≤ 134217726 * 67108863 := by rw [hp]; exact Nat.mul_le_mul hga hgb
            have hcl2 : j * (134217726 * 67108863 * 5) ≤ 5 * (134217726 * 67108863 * 5) := Nat.mul_le_mul_right _ hj
            have hd5 : d < 5 := by omega
            have e0 : (i : Int) - j = d := by omega
            have e0' : IntKind.i64.wrap (d : Int) = d := by rw [IntKind.wrap_i64]; omega
            have hd0 : (0 : Int) ≤ d := by omega
            have hd5' : (d : Int) < 5 := by omega
            have e1 : (a : Int) * b = p := by rw [hp]; simp
            have e2 : IntKind.u64.wrap (p : Int) = p := by rw [IntKind.wrap_u64]; omega
            have e3 : (o : Int) + p = v := by omega
            have e4 : IntKind.u64.wrap (v : Int) = v := by rw [IntKind.wrap_u64]; omega
            have hji' : (j : Int) ≤ i := by omega
            have HA := Lib.hid ha
            have HB := Lib.hid hb
            have HO := Lib.hid ho
            have HS := Lib.hid hset
            clear ha hb ho hp hv hset hcs htm hd hcl hcl2
            go_wp2_with fail
            apply region_last (n := 14) (hn := by kernel_rfl) (hlast := rfl) (hU := by kernel_rfl) (Φs := (Is _ :: Is _ :: Is _ :: Is _ :: Is _ :: Is _ :: Is _ :: Is _ :: Is _ :: Is _ :: Is _ :: Is _ :: Is _ :: Is _ :: [])) (hm := by kernel_rfl) (hE := by kernel_rfl) (hD := by kernel_rfl) (hsize := by kernel_rfl)
            case hop =>
              refine ⟨?_, ?_, ?_, ?_, ?_, ?_, ?_, ?_, ?_, ?_, ?_, ?_, ?_, ?_, trivial⟩
              · intro a' w' hs hp he
                have e6 := hs 6 (by kernel_rfl)
                try simp [Is, Region.binds] at he
                exact op_val rfl (wanted_none rfl) (by first | (go_simp; done) | (go_simp; rfl) | (simp [execOp, Act.eval, go_sem, *]; done) | (simp [execOp, Act.eval, go_sem, *]; rfl)) rfl (Pu.refl _)
              · intro a' w' hs hp he
                have e5 := hs 5 (by kernel_rfl)
                try simp [Is, Region.binds] at he
                exact op_val rfl (wanted_none rfl) (by first | (go_simp; done) | (go_simp; rfl) | (simp [execOp, Act.eval, go_sem, *]; done) | (simp [execOp, Act.eval, go_sem, *]; rfl)) rfl (Pu.refl _)
              · intro a' w' hs hp he
                try simp [Is, Region.binds] at he
                have c := Row.limb (hro.pu hp) i (by rw [mulAt_length]; omega); rw [mulAt_get _ _ _ _ hlt, ← HO.out] at c; exact op_val rfl (wanted_none rfl) (by first | (go_simp; done) | (go_simp; rfl)) rfl (Pu.refl _)
              · intro a' w' hs hp he
                have e7 := hs 7 (by kernel_rfl)
                try simp [Is, Region.binds] at he
                exact op_val rfl (wanted_none rfl) (by first | (go_simp; done) | (go_simp; rfl) | (simp [execOp, Act.eval, go_sem, *]; done) | (simp [execOp, Act.eval, go_sem, *]; rfl)) rfl (Pu.refl _)
              · intro a' w' hs hp he
                have e2 := hs 2 (by kernel_rfl)
                try simp [Is, Region.binds] at he
                exact op_val rfl (wanted_none rfl) (by first | (go_simp; done) | (go_simp; rfl) | (simp [execOp, Act.eval, go_sem, *]; done) | (simp [execOp, Act.eval, go_sem, *]; rfl)) rfl (Pu.refl _)
              · intro a' w' hs hp he
                try simp [Is, Region.binds] at he
                have c := Row.limb (hrx.pu hp) j (by omega); rw [← HA.out] at c; exact op_val rfl (wanted_none rfl) (by first | (go_simp; done) | (go_simp; rfl)) rfl (Pu.refl _)
              · intro a' w' hs hp he
                have e6 := hs 6 (by kernel_rfl)
                try simp [Is, Region.binds] at he
                exact op_val rfl (wanted_none rfl) (by first | (go_simp; done) | (go_simp; rfl) | (simp [execOp, Act.eval, go_sem, *]; done) | (simp [execOp, Act.eval, go_sem, *]; rfl)) rfl (Pu.refl _)
              · intro a' w' hs hp he
                have e7 := hs 7 (by kernel_rfl)
                try simp [Is, Region.binds] at he
                exact op_val rfl (wanted_none rfl) (by first | (go_simp; done) | (go_simp; rfl) | (simp [execOp, Act.eval, go_sem, *]; done) | (simp [execOp, Act.eval, go_sem, *]; rfl)) rfl (Pu.refl _)
              · intro a' w' hs hp he
                try simp [Is, Region.binds] at he
                exact op_val rfl (wanted_none rfl) (by first | (go_simp; done) | (go_simp; rfl) | (simp [execOp, Act.eval, go_sem, *]; done) | (simp [execOp, Act.eval, go_sem, *]; rfl)) rfl (Pu.refl _)
              · intro a' w' hs hp he
                have e3 := hs 3 (by kernel_rfl)
                try simp [Is, Region.binds] at he
                exact op_val rfl (wanted_none rfl) (by first | (go_simp; done) | (go_simp; rfl) | (simp [execOp, Act.eval, go_sem, *]; done) | (simp [execOp, Act.eval, go_sem, *]; rfl)) rfl (Pu.refl _)
              · intro a' w' hs hp he
                try simp [Is, Region.binds] at he
                have c := Row.limb (hry.pu hp) d (by omega); rw [← HB.out] at c; exact op_val rfl (wanted_none rfl) (by first | (go_simp; done) | (go_simp; rfl)) rfl (Pu.refl _)
              · intro a' w' hs hp he
                try simp [Is, Region.binds] at he
                exact op_val rfl (wanted_none rfl) (by first | (go_simp; done) | (go_simp; rfl) | (simp [execOp, Act.eval, go_sem, *]; done) | (simp [execOp, Act.eval, go_sem, *]; rfl)) rfl (Pu.refl _)
              · intro a' w' hs hp he
                try simp [Is, Region.binds] at he
                exact op_val rfl (wanted_none rfl) (by first | (go_simp; done) | (go_simp; rfl) | (simp [execOp, Act.eval, go_sem, *]; done) | (simp [execOp, Act.eval, go_sem, *]; rfl)) rfl (Pu.refl _)
              · intro a' w' hs hp he
                have e5 := hs 5 (by kernel_rfl)
                try simp [Is, Region.binds] at he
                exact op_val rfl (wanted_none rfl) (by first | (go_simp; done) | (go_simp; rfl) | (simp [execOp, Act.eval, go_sem, *]; done) | (simp [execOp, Act.eval, go_sem, *]; rfl)) rfl (Pu.refl _)
            case hend =>
              intro a' w' hdef hsz hs hp hall
              obtain ⟨r0, r1, r2, r3, r4, r5, r6, r7, r8, r9, r10, r11, r12, r13, -⟩ := hall
              have hA := agree_done (agree_step (agree_step (agree_step (agree_step (agree_step (agree_step (agree_step (agree_step (agree_step (agree_step (agree_step (agree_step (agree_step (agree_step (agree_init [17, 18, 19, 20, 21, 22, 23, 24, 25, 26, 27, 28, 29, 30] hsz hs (by kernel_rfl)) r0) r1) r2) r3) r4) r5) r6) r7) r8) r9) r10) r11) r12) r13)
              have ha := act_of hA hdef
              rw [ha]
              clear ha hA hs hsz hdef r0 r1 r2 r3 r4 r5 r6 r7 r8 r9 r10 r11 r12 r13 
              (try simp only [List.setIfInBounds_toArray])
              (try dsimp only [List.set_cons_zero, List.set_cons_succ])
              (try simp only [Exit.then])
              have c := Row.limb (hro.pu hp) i (by rw [mulAt_length]; omega); rw [mulAt_get _ _ _ _ hlt, ← HO.out] at c; have hf := (hro.pu hp).frozen i (by rw [us_length, mulAt_length]; omega)
              refine op_done rfl (wanted_none rfl) (by first | (go_simp; done) | (go_simp; rfl)) ?_
              (try simp only [Exit.inBlock, Exit.then])
              go_wp2_with fail
              go_roundw
              case rel =>
                replace hrx := hrx.pu hp
                replace hry := hry.pu hp
                replace hres := hres.pu hp
                replace hro := hro.pu hp
                replace hbel := hbel.trans (Below.mono hp hbel.size)
                have h1 := hro.set i (.int .u64 (v : Int))
                rw [us_set, HS.out] at h1
                have h2 := hrx.setOther (⟨w.heap.size + 3, i, none⟩ : Addr) (.int .u64 (v : Int)) (by simp)
                have h3 := hry.setOther (⟨w.heap.size + 3, i, none⟩ : Addr) (.int .u64 (v : Int)) (by simp)
                have h4 := hres.setOther (⟨w.heap.size + 3, i, none⟩ : Addr) (.int .u64 (v : Int)) (by simp)
                have h5 := hbel.setCell (p := (⟨w.heap.size + 3, i, none⟩ : Addr)) (by simp) (.int .u64 (v : Int))
                first | exact ⟨j + 1, by omega, by go_num, h2, h3, h4, h1, h5⟩ | ((repeat apply Exists.intro); exact ⟨⟨j + 1, by omega, by go_num, h2, h3, h4, h1, h5⟩, rfl⟩)
              case measure => simp [intOf]; omega
          · have htm : tm x y i j = x.getD j 0 * y.getD (5 + i - j) 0 * 5 := by rw [tm, if_neg hji]
            obtain ⟨d, hd⟩ : ∃ d, d = 5 + i - j := ⟨_, rfl⟩
            have hgb := getD_le hyb d
            rw [← hd] at htm
            obtain ⟨a, ha⟩ : ∃ a, a = x.getD j 0 := ⟨_, rfl⟩
            obtain ⟨b, hb⟩ : ∃ b, b = y.getD d 0 := ⟨_, rfl⟩
            obtain ⟨o, ho⟩ : ∃ o, o = col x y i j := ⟨_, rfl⟩
            obtain ⟨p, hp⟩ : ∃ p, p = a * b := ⟨_, rfl⟩
            obtain ⟨p5, hp5⟩ : ∃ q, q = p * 5 := ⟨_, rfl⟩
            obtain ⟨v, hv⟩ : ∃ v, v = o + p5 := ⟨_, rfl⟩
            rw [← ha] at hga htm
            rw [← hb] at hgb htm
            rw [← hp, ← hp5] at htm
            rw [htm, ← ho, ← hv] at hcs
            rw [hcs] at hset
            rw [← ho] at hcl
            have hpl : p ≤ 134217726 * 67108863 := by rw [hp]; exact Nat.mul_le_mul hga hgb
            have hcl2 : j * (134217726 * 67108863 * 5) ≤ 5 * (134217726 * 67108863 * 5) := Nat.mul_le_mul_right _ hj
            have hd5 : d < 5 := by omega
            obtain ⟨s5, hs5⟩ : ∃ s : Nat, s = 5 + i := ⟨_, rfl⟩
            have e05 : IntKind.i64.wrap (5 + (i : Int)) = s5 := by rw [IntKind.wrap_i64]; omega
            have e06 : (5 : Int) + i = s5 := by omega
            have e00 : (s5 : Int) - j = d := by omega
            have e07 : IntKind.i64.wrap (s5 : Int) = s5 := by rw [IntKind.wrap_i64]; omega
            have e0' : IntKind.i64.wrap (d : Int) = d := by rw [IntKind.wrap_i64]; omega
            have hd0 : (0 : Int) ≤ d := by omega
            have hd5' : (d : Int) < 5 := by omega
            have e1 : (a : Int) * b = p := by rw [hp]; simp
            have e2 : IntKind.u64.wrap (p : Int) = p := by rw [IntKind.wrap_u64]; omega
            have e15 : (p : Int) * 5 = p5 := by omega
            have e25 : IntKind.u64.wrap (p5 : Int) = p5 := by rw [IntKind.wrap_u64]; omega
            have e3 : (o : Int) + p5 = v := by omega
            have e4 : IntKind.u64.wrap (v : Int) = v := by rw [IntKind.wrap_u64]; omega
            have hji' : decide ((j : Int) ≤ i) = false := by simp; omega
            have HA := Lib.hid ha
            have HB := Lib.hid hb
            have HO := Lib.hid ho
            have HS := Lib.hid hset
            clear ha hb ho hp hp5 hv hset hcs htm hd hcl hcl2 hs5
            go_wp2_with fail
            apply region_last (n := 16) (hn := by kernel_rfl) (hlast := rfl) (hU := by kernel_rfl) (Φs := (Is _ :: Is _ :: Is _ :: Is _ :: Is _ :: Is _ :: Is _ :: Is _ :: Is _ :: Is _ :: Is _ :: Is _ :: Is _ :: Is _ :: Is _ :: Is _ :: [])) (hm := by kernel_rfl) (hE := by kernel_rfl) (hD := by kernel_rfl) (hsize := by kernel_rfl)
            case hop =>
              refine ⟨?_, ?_, ?_, ?_, ?_, ?_, ?_, ?_, ?_, ?_, ?_, ?_, ?_, ?_, ?_, ?_, trivial⟩
              · intro a' w' hs hp he
                have e6 := hs 6 (by kernel_rfl)
                try simp [Is, Region.binds] at he
                exact op_val rfl (wanted_none rfl) (by first | (go_simp; done) | (go_simp; rfl) | (simp [execOp, Act.eval, go_sem, *]; done) | (simp [execOp, Act.eval, go_sem, *]; rfl)) rfl (Pu.refl _)
              · intro a' w' hs hp he
                have e5 := hs 5 (by kernel_rfl)
                try simp [Is, Region.binds] at he
                exact op_val rfl (wanted_none rfl) (by first | (go_simp; done) | (go_simp; rfl) | (simp [execOp, Act.eval, go_sem, *]; done) | (simp [execOp, Act.eval, go_sem, *]; rfl)) rfl (Pu.refl _)
              · intro a' w' hs hp he
                try simp [Is, Region.binds] at he
                have c := Row.limb (hro.pu hp) i (by rw [mulAt_length]; omega); rw [mulAt_get _ _ _ _ hlt, ← HO.out] at c; exact op_val rfl (wanted_none rfl) (by first | (go_simp; done) | (go_simp; rfl)) rfl (Pu.refl _)
              · intro a' w' hs hp he
                have e7 := hs 7 (by kernel_rfl)
                try simp [Is, Region.binds] at he
                exact op_val rfl (wanted_none rfl) (by first | (go_simp; done) | (go_simp; rfl) | (simp [execOp, Act.eval, go_sem, *]; done) | (simp [execOp, Act.eval, go_sem, *]; rfl)) rfl (Pu.refl _)
              · intro a' w' hs hp he
                have e2 := hs 2 (by kernel_rfl)
                try simp [Is, Region.binds] at he
                exact op_val rfl (wanted_none rfl) (by first | (go_simp; done) | (go_simp; rfl) | (simp [execOp, Act.eval, go_sem, *]; done) | (simp [execOp, Act.eval, go_sem, *]; rfl)) rfl (Pu.refl _)
              · intro a' w' hs hp he
                try simp [Is, Region.binds] at he
                have c := Row.limb (hrx.pu hp) j (by omega); rw [← HA.out] at c; exact op_val rfl (wanted_none rfl) (by first | (go_simp; done) | (go_simp; rfl)) rfl (Pu.refl _)
              · intro a' w' hs hp he
                have e6 := hs 6 (by kernel_rfl)
                try simp [Is, Region.binds] at he
                exact op_val rfl (wanted_none rfl) (by first | (go_simp; done) | (go_simp; rfl) | (simp [execOp, Act.eval, go_sem, *]; done) | (simp [execOp, Act.eval, go_sem, *]; rfl)) rfl (Pu.refl _)
              · intro a' w' hs hp he
                try simp [Is, Region.binds] at he
                exact op_val rfl (wanted_none rfl) (by first | (go_simp; done) | (go_simp; rfl) | (simp [execOp, Act.eval, go_sem, *]; done) | (simp [execOp, Act.eval, go_sem, *]; rfl)) rfl (Pu.refl _)
              · intro a' w' hs hp he
                have e7 := hs 7 (by kernel_rfl)
                try simp [Is, Region.binds] at he
                exact op_val rfl (wanted_none rfl) (by first | (go_simp; done) | (go_simp; rfl) | (simp [execOp, Act.eval, go_sem, *]; done) | (simp [execOp, Act.eval, go_sem, *]; rfl)) rfl (Pu.refl _)
              · intro a' w' hs hp he
                try simp [Is, Region.binds] at he
                exact op_val rfl (wanted_none rfl) (by first | (go_simp; done) | (go_simp; rfl) | (simp [execOp, Act.eval, go_sem, *]; done) | (simp [execOp, Act.eval, go_sem, *]; rfl)) rfl (Pu.refl _)
              · intro a' w' hs hp he
                have e3 := hs 3 (by kernel_rfl)
                try simp [Is, Region.binds] at he
                exact op_val rfl (wanted_none rfl) (by first | (go_simp; done) | (go_simp; rfl) | (simp [execOp, Act.eval, go_sem, *]; done) | (simp [execOp, Act.eval, go_sem, *]; rfl)) rfl (Pu.refl _)
              · intro a' w' hs hp he
                try simp [Is, Region.binds] at he
                have c := Row.limb (hry.pu hp) d (by omega); rw [← HB.out] at c; exact op_val rfl (wanted_none rfl) (by first | (go_simp; done) | (go_simp; rfl)) rfl (Pu.refl _)
              · intro a' w' hs hp he
                try simp [Is, Region.binds] at he
                exact op_val rfl (wanted_none rfl) (by first | (go_simp; done) | (go_simp; rfl) | (simp [execOp, Act.eval, go_sem, *]; done) | (simp [execOp, Act.eval, go_sem, *]; rfl)) rfl (Pu.refl _)
              · intro a' w' hs hp he
                try simp [Is, Region.binds] at he
                exact op_val rfl (wanted_none rfl) (by first | (go_simp; done) | (go_simp; rfl) | (simp [execOp, Act.eval, go_sem, *]; done) | (simp [execOp, Act.eval, go_sem, *]; rfl)) rfl (Pu.refl _)
              · intro a' w' hs hp he
                try simp [Is, Region.binds] at he
                exact op_val rfl (wanted_none rfl) (by first | (go_simp; done) | (go_simp; rfl) | (simp [execOp, Act.eval, go_sem, *]; done) | (simp [execOp, Act.eval, go_sem, *]; rfl)) rfl (Pu.refl _)
              · intro a' w' hs hp he
                have e5 := hs 5 (by kernel_rfl)
                try simp [Is, Region.binds] at he
                exact op_val rfl (wanted_none rfl) (by first | (go_simp; done) | (go_simp; rfl) | (simp [execOp, Act.eval, go_sem, *]; done) | (simp [execOp, Act.eval, go_sem, *]; rfl)) rfl (Pu.refl _)
            case hend =>
              intro a' w' hdef hsz hs hp hall
              obtain ⟨r0, r1, r2, r3, r4, r5, r6, r7, r8, r9, r10, r11, r12, r13, r14, r15, -⟩ := hall
              have hA := agree_done (agree_step (agree_step (agree_step (agree_step (agree_step (agree_step (agree_step (agree_step (agree_step (agree_step (agree_step (agree_step (agree_step (agree_step (agree_step (agree_step (agree_init [31, 32, 33, 34, 35, 36, 37, 38, 39, 40, 41, 42, 43, 44, 45, 46] hsz hs (by kernel_rfl)) r0) r1) r2) r3) r4) r5) r6) r7) r8) r9) r10) r11) r12) r13) r14) r15)
              have ha := act_of hA hdef
              rw [ha]
              clear ha hA hs hsz hdef r0 r1 r2 r3 r4 r5 r6 r7 r8 r9 r10 r11 r12 r13 r14 r15 
              (try simp only [List.setIfInBounds_toArray])
              (try dsimp only [List.set_cons_zero, List.set_cons_succ])
              (try simp only [Exit.then])
              have c := Row.limb (hro.pu hp) i (by rw [mulAt_length]; omega); rw [mulAt_get _ _ _ _ hlt, ← HO.out] at c; have hf := (hro.pu hp).frozen i (by rw [us_length, mulAt_length]; omega)
              refine op_done rfl (wanted_none rfl) (by first | (go_simp; done) | (go_simp; rfl)) ?_
              (try simp only [Exit.inBlock, Exit.then])
              go_wp2_with fail
              go_roundw
              case rel =>
                replace hrx := hrx.pu hp
                replace hry := hry.pu hp
                replace hres := hres.pu hp
                replace hro := hro.pu hp
                replace hbel := hbel.trans (Below.mono hp hbel.size)
                have h1 := hro.set i (.int .u64 (v : Int))
                rw [us_set, HS.out] at h1
                have h2 := hrx.setOther (⟨w.heap.size + 3, i, none⟩ : Addr) (.int .u64 (v : Int)) (by simp)
                have h3 := hry.setOther (⟨w.heap.size + 3, i, none⟩ : Addr) (.int .u64 (v : Int)) (by simp)
                have h4 := hres.setOther (⟨w.heap.size + 3, i, none⟩ : Addr) (.int .u64 (v : Int)) (by simp)
                have h5 := hbel.setCell (p := (⟨w.heap.size + 3, i, none⟩ : Addr)) (by simp) (.int .u64 (v : Int))
                first | exact ⟨j + 1, by omega, by go_num, h2, h3, h4, h1, h5⟩ | ((repeat apply Exists.intro); exact ⟨⟨j + 1, by omega, by go_num, h2, h3, h4, h1, h5⟩, rfl⟩)
              case measure => simp [intOf]; omega
        · obtain rfl : j = 5 := by omega
          rw [mulAt_next _ _ _ hlt] at hro
          go_wp2_with fail
          go_roundw
          case rel => first | exact ⟨i + 1, by omega, by go_num, hrx, hry, hres, hro, hbel⟩ | ((repeat apply Exists.intro); exact ⟨⟨i + 1, by omega, by go_num, hrx, hry, hres, hro, hbel⟩, rfl⟩)
          case measure => simp [intOf]; omega
    · obtain rfl : i = 5 := by omega
      have hmb := (mulN_le hxb hyb).mono (b := 4611686018427387903) (by decide)
      rw [show mulAt x y 5 0 = mulN x y from rfl] at hro
      obtain ⟨m, hm⟩ : ∃ m, m = mulN x y := ⟨_, rfl⟩
      rw [← hm] at hro hmb
      have hx := hro
      obtain ⟨mv, hmv⟩ : ∃ z, z = us m := ⟨_, rfl⟩
      have hmv5 : mv.length = 5 := by rw [hmv, us_length]; exact hmb.1
      obtain ⟨z, hz⟩ : ∃ z, z = us (carryN m) := ⟨_, rfl⟩
      have hz5 : z.length = 5 := by rw [hz, us_length, carryN, passes_length]; exact hmb.1
      have hz1 : z.all (·.oneCell') = true := by rw [hz]; exact us_one _
      have htk : ((z.drop 0).take 5) = z := by rw [List.drop_zero, List.take_of_length_le (by omega)]
      have htk2 : ((mv.drop 0).take 5) = mv := by rw [List.drop_zero, List.take_of_length_le (by omega)]
      rw [← hmv] at hx
      have hC := fun w => carryF m hmb mv z hmv hz w
      have hRz : R = z := by rw [HR.out, hz, hm]
      have HRZ := Lib.hid hRz
      have HC := Lib.hid hC
      clear hz hRz hrx hry hro hm hmv hC
      go_wp2_with (first
        | (refine wpList_load_part rfl 139 (.tmp 5) rfl (w.heap.size + 3) 0 5 (by rfl) hx Tryz.underlying139 rfl hi5 (by omega) ?_; rw [htk2])
        | (go_at_call 112; refine (HC.out _).mono ?_; rintro e w4 ⟨rfl, hp4⟩; replace hres := hres.pu hp4; replace hbel := hbel.trans (Below.mono hp4 hbel.size))
        | (refine wpList_store_part rfl 139 (.tmp 4) (.tmp 50) rfl (w.heap.size + 2) 0 z (by rfl) (by rfl) hres (by rw [hz5]; exact hi5) (by rw [hz5]; decide) hz1 ?_; intro wl hr1 hch))
      rw [splice_all (by rw [hz5]; rfl)] at hr1
      have hrl := hr1.load (P := Tryz.prog) 139 0 5 Tryz.underlying139 rfl hi5 (by omega)
      rw [htk] at hrl
      (try simp only [Exit.inBlock, Exit.then])
      refine bodyPost_ret (results_cell_eq rfl _ _ rfl hrl) rfl ?_
      exact ⟨by rw [HRZ.out], hch.below hbel (by omega)⟩
end Go.Proofs.YtfbnaemnblannaaGreat
set_option linter.unusedSimpArgs false
set_option linter.unusedVariables false
namespace Go.Esc
open Go Go.RowKit
theorem wholeN_if (l : List Nat) : wholeN l = if 0 < (cr (carryN l) 5 5).2 then (cr (carryN l) 5 5).1 else carryN l := rfl
theorem and8 (c : UInt8) (m : UInt8) : Go.bits .and .u8 (c.toNat : Int) (m.toNat : Int) = ((c &&& m).toNat : Int) := by
  rw [u8_and_nat _ _ c.toNat_lt m.toNat_lt, UInt8.toNat_and]
def clampTo (key : Bs) (k : Nat) : Bs := (List.range 16).map fun i => if i < k then clampB i (key.getD i 0) else key.getD i 0
theorem clampTo_length (key : Bs) (k : Nat) : (clampTo key k).length = 16 := by simp [clampTo]
theorem clampTo_zero (key : Bs) (h : 16 ≤ key.length) : clampTo key 0 = key.take 16 := by
  apply List.ext_getElem
  · simp [clampTo]; omega
  · intro i h1 h2
    simp only [clampTo_length] at h1
    simp [clampTo, List.getD_eq_getElem?_getD, List.getElem?_eq_getElem (show i < key.length by omega)]
theorem clampTo_all (key : Bs) : clampTo key 16 = clampL key := by
  apply List.ext_getElem
  · simp [clampTo, clampL]
  · intro i h1 h2
    simp only [clampTo_length] at h1
    simp [clampTo, clampL, h1]
theorem clampTo_set (key : Bs) (k : Nat) (h : k < 16) : (clampTo key k).set k (clampB k (key.getD k 0)) = clampTo key (k+1) := by
  apply List.ext_getElem
  · simp [clampTo]
  · intro i h1 h2
    simp only [clampTo_length] at h2
    rw [List.getElem_set]
    by_cases hki : k = i
    · subst hki; simp [clampTo]
    · rw [if_neg hki]
      simp only [clampTo, List.getElem_map, List.getElem_range]
      by_cases h3 : i < k
      · rw [if_pos h3, if_pos (by omega)]
      · rw [if_neg h3, if_neg (by omega)]
theorem clampTo_get (key : Bs) (k : Nat) (h : k < 16) : (clampTo key k)[k]'(by rw [clampTo_length]; exact h) = key.getD k 0 := by simp [clampTo]
theorem clampTo_same (key : Bs) (k : Nat) (h : k < 16) (hc : clampB k (key.getD k 0) = key.getD k 0) : clampTo key k = clampTo key (k+1) := by
  rw [← clampTo_set key k h, hc, ← clampTo_get key k h, List.set_getElem_self]
end Go.Esc
namespace Go.Proofs.YtfbnaemnblannaaGreat
open Go.RowKit Go.Esc
set_option maxRecDepth 100000 in
set_option maxHeartbeats 1600000 in
theorem splitF (low high top : Nat) (hl : low < 18446744073709551616) (hh : high < 18446744073709551616) (ht : top ≤ 1) (R : List Value) (hR : R = us (split5 low high top)) (w : World) :
    Calls Tryz.prog 90 #[.int .u64 (low : Int), .int .u64 (high : Int), .int .u64 (top : Int)] w fun e w' => e = .returned (.agg R.toArray) ∧ Pu w w' := by
  have hi5 : (Tryz.prog.info? 139).map (·.size) = some 5 := by kernel_rfl
  obtain ⟨a0, ha0⟩ : ∃ v, v = low % 67108864 := ⟨_, rfl⟩
  obtain ⟨q1, hq1⟩ : ∃ v, v = low / 67108864 := ⟨_, rfl⟩
  obtain ⟨a1, ha1⟩ : ∃ v, v = q1 % 67108864 := ⟨_, rfl⟩
  obtain ⟨q2, hq2⟩ : ∃ v, v = low / 4503599627370496 := ⟨_, rfl⟩
  obtain ⟨m2, hm2⟩ : ∃ v, v = high % 4503599627370496 := ⟨_, rfl⟩
  obtain ⟨h2, hh2⟩ : ∃ v, v = m2 * 2 ^ 12 := ⟨_, rfl⟩
  obtain ⟨o2, ho2⟩ : ∃ v, v = q2 + m2 * 2 ^ 12 := ⟨_, rfl⟩
  obtain ⟨a2, ha2⟩ : ∃ v, v = o2 % 67108864 := ⟨_, rfl⟩
  obtain ⟨q3, hq3⟩ : ∃ v, v = high / 16384 := ⟨_, rfl⟩
  obtain ⟨a3, ha3⟩ : ∃ v, v = q3 % 67108864 := ⟨_, rfl⟩
  obtain ⟨q4, hq4⟩ : ∃ v, v = high / 1099511627776 := ⟨_, rfl⟩
  obtain ⟨t4, ht4⟩ : ∃ v, v = top * 2 ^ 24 := ⟨_, rfl⟩
  obtain ⟨a4, ha4⟩ : ∃ v, v = q4 + top * 2 ^ 24 := ⟨_, rfl⟩
  have hfin : R = us [a0, a1, a2, a3, a4] := by
    rw [hR, split5]
    congr 1
    simp only [List.cons.injEq, and_true]
    refine ⟨ha0.symm, by rw [ha1, hq1], by omega, by rw [ha3, hq3], by omega⟩
  have e0 : Go.bits .and .u64 (low : Int) 67108863 = (a0 : Int) := by rw [and26 low hl, ha0]
  have e1 : (low : Int) / 67108864 = q1 := by omega
  have e2 : Go.bits .and .u64 (q1 : Int) 67108863 = (a1 : Int) := by rw [and26 q1 (by omega), ha1]
  have e3 : (low : Int) / 4503599627370496 = q2 := by omega
  have e4 : (high : Int) * 4096 % 18446744073709551616 = h2 := by omega
  have e4' : IntKind.u64.wrap ((high : Int) * 4096) = h2 := by rw [IntKind.wrap_u64]; omega
  have e5 : Go.bits .or .u64 (q2 : Int) (h2 : Int) = (o2 : Int) := by rw [hh2, or_low 12 q2 m2 (by omega) (by omega), ho2]
  have e6 : Go.bits .and .u64 (o2 : Int) 67108863 = (a2 : Int) := by rw [and26 o2 (by omega), ha2]
  have e7 : (high : Int) / 16384 = q3 := by omega
  have e8 : Go.bits .and .u64 (q3 : Int) 67108863 = (a3 : Int) := by rw [and26 q3 (by omega), ha3]
  have e9 : (high : Int) / 1099511627776 = q4 := by omega
  have e10 : (top : Int) * 16777216 = t4 := by omega
  have e10' : IntKind.u64.wrap (t4 : Int) = t4 := by rw [IntKind.wrap_u64]; omega
  have e10'' : (t4 : Int) % 18446744073709551616 = t4 := by omega
  have e11 : Go.bits .or .u64 (q4 : Int) (t4 : Int) = (a4 : Int) := by rw [ht4, or_low 24 q4 top (by omega) (by omega), ha4]
  have hR5 : R.length = 5 := by rw [hfin, us_length]; rfl
  have hR1 : R.all (·.oneCell') = true := by rw [hfin]; exact us_one _
  have htk : ((R.drop 0).take 5) = R := by rw [List.drop_zero, List.take_of_length_le (by omega)]
  have HFIN := Lib.hid hfin
  clear hR hfin ha0 hq1 ha1 hq2 hm2 hh2 ho2 ha2 hq3 ha3 hq4 ht4 ha4 hl hh ht
  go_enter Tryz.func90, Tryz.ntmps90
  go_wp2_with (first
    | (refine wpList_built rfl 139 _ rfl R (by rw [HFIN.out]; kernel_rfl) ?_)
    | (refine wpList_store_part rfl 139 (.tmp 6) (.tmp 26) rfl w.heap.size 0 R (by rfl) (by rfl) (Row.new _ _ _) (by rw [hR5]; exact hi5) (by rw [hR5]; decide) hR1 ?_; intro w1 hr1 hch))
  rw [splice_all (by rw [hR5]; rfl)] at hr1
  have hrl := hr1.load (P := Tryz.prog) 139 0 5 Tryz.underlying139 rfl hi5 (by omega)
  rw [htk] at hrl
  refine bodyPost_ret (results_cell_eq rfl _ _ rfl hrl) rfl ?_
  exact ⟨rfl, hch.below ((Pu.refl w).alloc _) (Nat.le_refl _)⟩
set_option maxRecDepth 100000 in
set_option maxHeartbeats 1600000 in
theorem wholeF (l : List Nat) (hl : Le5 4611686018427387903 l) (xs R : List Value) (hxs : xs = us l) (hR : R = us (wholeN l)) (w : World) :
    Calls Tryz.prog 93 #[.agg xs.toArray] w fun e w' => e = .returned (.agg R.toArray) ∧ Pu w w' := by
  have hi5 : (Tryz.prog.info? 139).map (·.size) = some 5 := by kernel_rfl
  have hcs := carry_small l hl
  have hwi := wholeN_if l
  obtain ⟨m, hm⟩ : ∃ m, m = carryN l := ⟨_, rfl⟩
  rw [← hm] at hcs hwi
  have hm5 : m.length = 5 := hcs.1
  obtain ⟨mv, hmv⟩ : ∃ z, z = us m := ⟨_, rfl⟩
  have hmv5 : mv.length = 5 := by rw [hmv, us_length, hm5]
  have hmv1 : mv.all (·.oneCell') = true := by rw [hmv]; exact us_one _
  have htkm : ((mv.drop 0).take 5) = mv := by rw [List.drop_zero, List.take_of_length_le (by omega)]
  have hxl : xs.length = 5 := by rw [hxs, us_length]; exact hl.1
  have htkx : ((xs.drop 0).take 5) = xs := by rw [List.drop_zero, List.take_of_length_le (by omega)]
  have hC := fun w => carryF l hl xs mv hxs (by rw [hmv, hm]) w
  have hcr := fun i => cr_le m 5 67108863 5 (by decide) (by decide) hcs i
  have HC := Lib.hid hC
  have HR := Lib.hid hR
  have HWI := Lib.hid hwi
  have HMV := Lib.hid hmv
  have HCR := Lib.hid hcr
  clear hC hR hwi hmv hm hxs hl hcs hcr
  go_enter Tryz.func93, Tryz.ntmps93
  go_wp2_with (first
    | (refine wpList_box rfl 139 (.tmp 0) rfl xs (by rfl) ?_; intro w0 hrx hp0 hz0)
    | (refine wpList_load_part rfl 139 (.tmp 1) rfl w.heap.size 0 5 (by rfl) (hrx.alloc _) Tryz.underlying139 rfl hi5 (by omega) ?_; rw [htkx])
    | (go_at_call 112; refine (HC.out _).mono ?_; rintro e w1 ⟨rfl, hp1⟩
       have hrx1 := (hrx.alloc _).pu hp1
       have hres1 := (Row.newAt w0 (w.heap.size + 1) _ _ (xs := us [0, 0, 0, 0, 0]) hz0 rfl).pu hp1
       have hbel1 : Below w.heap.size w w1 := Pu.trans (Pu.alloc hp0 _) hp1)
    | (refine wpList_store_part rfl 139 (.tmp 1) (.tmp 7) rfl w.heap.size 0 mv (by rfl) (by rfl) hrx1 (by rw [hmv5]; exact hi5) (by rw [hmv5]; omega) hmv1 ?_; intro w2 hrx2 hch2
       rw [splice_all (by rw [hmv5]; omega)] at hrx2
       have hres2 := hch2.row hres1 (by omega)
       have hbel2 : Below w.heap.size w w2 := hch2.below hbel1 (by omega)
       have hgz2 : w.heap.size + 2 ≤ w2.heap.size := by have h5 := hp1.size; have h6 := hch2.size; simp at h5; omega)
    | (refine wpList_load_part rfl 139 (.tmp 1) rfl w.heap.size 0 5 (by rfl) hrx2 Tryz.underlying139 rfl hi5 (by omega) ?_; rw [htkm])
    | (refine wpList_store_part rfl 139 (.tmp 3) (.tmp 8) rfl w2.heap.size 0 mv (by rfl) (by rfl) (Row.newAt _ _ _ _ rfl rfl) (by rw [hmv5]; exact hi5) (by rw [hmv5]; decide) hmv1 ?_; intro w3 hry3 hch3
       rw [splice_all (by rw [hmv5]; rfl)] at hry3
       have hrx3 := hch3.row (hrx2.alloc _) (by omega)
       have hres3 := hch3.row (hres2.alloc _) (by omega)
       have hbel3 : Below w.heap.size w w3 := hch3.below (hbel2.alloc (by omega) _) (by omega)))
  rw [HMV.out] at hry3
  clear hrx hp0 hrx1 hres1 hbel1 hrx2 hch2 hres2 hbel2 hch3 hp1
  obtain ⟨Y, hY⟩ : ∃ Y, Y = w2.heap.size := ⟨_, rfl⟩
  rw [← hY] at hry3 hgz2 ⊢
  go_loopw [4, 9] (fun c i wr => ∃ k : Nat, k ≤ 5 ∧ i = .int .i64 (k : Int) ∧ c = .int .u64 ((cr m 5 k).2 : Nat) ∧ Row wr Y 139 (us (cr m 5 k).1) ∧ Row wr w.heap.size 139 mv ∧ Row wr (w.heap.size + 1) 139 (us [0, 0, 0, 0, 0]) ∧ Below w.heap.size w wr) (fun _ i _ => 5 - (intOf i).toNat)
  case atStart => exact ⟨0, by omega, rfl, rfl, hry3, hrx3, hres3, hbel3⟩
  case round =>
    clear hry3 hrx3 hres3 hbel3 hY
    obtain ⟨k, hk, rfl, rfl, hy, hrx, hres, hbel⟩ := hrel
    obtain ⟨hc1, hc2, hc3⟩ := HCR.out k hk
    have hcl := cr_length m 5 k
    by_cases hkt : k < 5
    · have hsu := cr_succ m 5 k
      have hck := hc2 k (by omega)
      obtain ⟨y, hyy⟩ : ∃ y, y = (cr m 5 k).1 := ⟨_, rfl⟩
      obtain ⟨c, hc⟩ : ∃ y, y = (cr m 5 k).2 := ⟨_, rfl⟩
      obtain ⟨a, ha⟩ : ∃ a, a = (cr m 5 k).1.getD k 0 := ⟨_, rfl⟩
      obtain ⟨v, hv⟩ : ∃ v, v = a + c := ⟨_, rfl⟩
      obtain ⟨q, hq⟩ : ∃ q, q = v / 67108864 := ⟨_, rfl⟩
      obtain ⟨r, hr⟩ : ∃ r, r = v % 67108864 := ⟨_, rfl⟩
      rw [← ha] at hck hsu
      rw [← hyy] at hsu hcl hy ha
      rw [← hc] at hsu hc3
      rw [← hc]
      rw [← hv, ← hq, ← hr] at hsu
      have hvl : v < 18446744073709551616 := by omega
      have hcell := Row.limb hy k (by omega)
      rw [← ha] at hcell
      have hfz := hy.frozen k (by rw [us_length]; omega)
      have e1 : (a : Int) + c = v := by omega
      have e2 : IntKind.u64.wrap (v : Int) = v := by rw [IntKind.wrap_u64]; omega
      have e3 : (v : Int) / 67108864 = q := by omega
      have e4 : Go.bits .and .u64 (v : Int) 67108863 = (r : Int) := by rw [and26 v hvl, hr]
      have hk0 : (0 : Int) ≤ k := by omega
      have hk5 : (k : Int) < 5 := by omega
      have HSU := Lib.hid hsu
      have HY := Lib.hid hyy
      clear hsu hyy hc ha hv hq hr hc1 hc2
      go_wp2_with fail
      go_roundw
      case rel =>
        refine ⟨k + 1, by omega, by go_num, by rw [HSU.out], ?_, ?_, ?_, ?_⟩
        · rw [HSU.out]
          have h1 := (hy.set k (.int .u64 (v : Int))).set k (.int .u64 (r : Int))
          rw [List.set_set, us_set] at h1
          exact h1
        · exact (hrx.setOther _ _ (by simp; omega)).setOther _ _ (by simp; omega)
        · exact (hres.setOther _ _ (by simp; omega)).setOther _ _ (by simp; omega)
        · exact (hbel.setCell (by simp; omega) _).setCell (by simp; omega) _
      case measure => simp [intOf]; omega
    · obtain rfl : k = 5 := by omega
      obtain ⟨y, hyy⟩ : ∃ y, y = (cr m 5 5).1 := ⟨_, rfl⟩
      obtain ⟨c, hc⟩ : ∃ y, y = (cr m 5 5).2 := ⟨_, rfl⟩
      have hwi := HWI.out
      rw [← hyy, ← hc] at hwi
      rw [← hyy] at hcl hy
      rw [← hc] at hc3
      rw [← hc]
      have hy5 : y.length = 5 := by omega
      obtain ⟨yv, hyv⟩ : ∃ z, z = us y := ⟨_, rfl⟩
      have hyv5 : yv.length = 5 := by rw [hyv, us_length, hy5]
      have hyv1 : yv.all (·.oneCell') = true := by rw [hyv]; exact us_one _
      have htky : ((yv.drop 0).take 5) = yv := by rw [List.drop_zero, List.take_of_length_le (by omega)]
      rw [← hyv] at hy
      by_cases hc0 : 0 < c
      · rw [if_pos hc0] at hwi
        have hRz : R = yv := by rw [HR.out, hwi, hyv]
        have hc0' : (0 : Int) < c := by omega
        have HRZ := Lib.hid hRz
        clear hRz hwi hyv hyy hc hc1 hc2
        go_wp2_with (first
          | (refine wpList_load_part rfl 139 (.tmp 3) rfl Y 0 5 (by rfl) hy Tryz.underlying139 rfl hi5 (by omega) ?_; rw [htky])
          | (refine wpList_store_part rfl 139 (.tmp 2) (.tmp 30) rfl (w.heap.size + 1) 0 yv (by rfl) (by rfl) hres (by rw [hyv5]; exact hi5) (by rw [hyv5]; decide) hyv1 ?_; intro wl hr1 hch))
        rw [splice_all (by rw [hyv5]; rfl)] at hr1
        have hrl := hr1.load (P := Tryz.prog) 139 0 5 Tryz.underlying139 rfl hi5 (by omega)
        rw [htky] at hrl
        (try simp only [Exit.inBlock, Exit.then])
        refine bodyPost_ret (results_cell_eq rfl _ _ rfl hrl) rfl ?_
        exact ⟨by rw [HRZ.out], hch.below hbel (by omega)⟩
      · rw [if_neg hc0] at hwi
        have hRz : R = mv := by rw [HR.out, hwi, HMV.out]
        have hc0' : decide ((0 : Int) < c) = false := by simp; omega
        obtain rfl : c = 0 := by omega
        have HRZ := Lib.hid hRz
        clear hRz hwi hyv hyy hc hc1 hc2
        go_wp2_with (first
          | (refine wpList_load_part rfl 139 (.tmp 1) rfl w.heap.size 0 5 (by rfl) hrx Tryz.underlying139 rfl hi5 (by omega) ?_; rw [htkm])
          | (refine wpList_store_part rfl 139 (.tmp 2) (.tmp 31) rfl (w.heap.size + 1) 0 mv (by rfl) (by rfl) hres (by rw [hmv5]; exact hi5) (by rw [hmv5]; decide) hmv1 ?_; intro wl hr1 hch))
        rw [splice_all (by rw [hmv5]; rfl)] at hr1
        have hrl := hr1.load (P := Tryz.prog) 139 0 5 Tryz.underlying139 rfl hi5 (by omega)
        rw [htkm] at hrl
        (try simp only [Exit.inBlock, Exit.then])
        refine bodyPost_ret (results_cell_eq rfl _ _ rfl hrl) rfl ?_
        exact ⟨by rw [HRZ.out], hch.below hbel (by omega)⟩
end Go.Proofs.YtfbnaemnblannaaGreat
