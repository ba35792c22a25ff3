/- Limbs: sums, products, the number below the modulus, limbs of bytes. -/
import Derived.Test.YtdjbhbefghihcaaLimb
import Derived.Test.YtdjbhbefghihcaaRegionW
set_option linter.unusedSimpArgs false
set_option linter.unusedVariables false
namespace Go.Esc
open Go Go.RowKit
def plusTo (x y : List Nat) (i : Nat) : List Nat := (List.range 5).map fun k => if k < i then x.getD k 0 + y.getD k 0 else x.getD k 0
theorem plusTo_length (x y : List Nat) (i : Nat) : (plusTo x y i).length = 5 := by simp [plusTo]
theorem plusTo_get (x y : List Nat) (i : Nat) (h : i < 5) : (plusTo x y i).getD i 0 = x.getD i 0 := by simp [plusTo, h]
theorem plusTo_zero (x y : List Nat) (h : x.length = 5) : plusTo x y 0 = x := by
  obtain ⟨a, b, c, d, e, rfl⟩ := five x h; rfl
theorem plusTo_all (x y : List Nat) : plusTo x y 5 = plus5 x y := rfl
theorem plusTo_set (x y : List Nat) (i : Nat) (h : i < 5) : (plusTo x y i).set i (x.getD i 0 + y.getD i 0) = plusTo x y (i+1) := by
  rcases (by omega : i = 0 ∨ i = 1 ∨ i = 2 ∨ i = 3 ∨ i = 4) with rfl | rfl | rfl | rfl | rfl <;> rfl
theorem mulAt_length (x y : List Nat) (i j : Nat) : (mulAt x y i j).length = 5 := by simp [mulAt]
theorem mulAt_get (x y : List Nat) (i j : Nat) (h : i < 5) : (mulAt x y i j).getD i 0 = col x y i j := by simp [mulAt, h]
theorem mulAt_set (x y : List Nat) (i j : Nat) (h : i < 5) : (mulAt x y i j).set i (col x y i (j+1)) = mulAt x y i (j+1) := by
  rcases (by omega : i = 0 ∨ i = 1 ∨ i = 2 ∨ i = 3 ∨ i = 4) with rfl | rfl | rfl | rfl | rfl <;> rfl
theorem mulAt_next (x y : List Nat) (i : Nat) (h : i < 5) : mulAt x y i 5 = mulAt x y (i+1) 0 := by
  rcases (by omega : i = 0 ∨ i = 1 ∨ i = 2 ∨ i = 3 ∨ i = 4) with rfl | rfl | rfl | rfl | rfl <;> rfl
theorem mulAt_zero (x y : List Nat) : mulAt x y 0 0 = [0, 0, 0, 0, 0] := rfl
theorem or_low (k q m : Nat) (hq : q < 2 ^ k) (h1 : q + m * 2 ^ k < 18446744073709551616) : Go.bits .or .u64 (q : Int) ((m * 2 ^ k : Nat) : Int) = ((q + m * 2 ^ k : Nat) : Int) := by
  rw [u64_or_nat _ _ (by omega) (by omega), Nat.or_comm, nat_join k _ _ (by simp) hq, Nat.add_comm]
end Go.Esc
namespace Go.Proofs.Ytdjbhbefghihcaa
open Go.RowKit Go.Esc
set_option maxRecDepth 100000 in
set_option maxHeartbeats 1600000 in
theorem plusF (x y : List Nat) (hxb : Le5 67108863 x) (hyb : Le5 67108863 y) (xs ys R : List Value) (hxs : xs = us x) (hys : ys = us y) (hR : R = us (plus5 x y)) (w : World) :
    Calls Try.prog 148 #[.agg xs.toArray, .agg ys.toArray] w fun e w' => e = .returned (.agg R.toArray) ∧ Pu w w' := by
  have hi5 : (Try.prog.info? 159).map (·.size) = some 5 := by kernel_rfl
  have hx5 := hxb.1
  have hy5 := hyb.1
  have HX := Lib.hid hxs
  have HY := Lib.hid hys
  have HR := Lib.hid hR
  clear hxs hys hR
  go_enter Try.func148, Try.ntmps148
  go_wp2_with (first
    | (refine wpList_box rfl 159 (.tmp 0) rfl xs (by rfl) ?_; intro w0 hrx hp0 hz0)
    | (refine wpList_box rfl 159 (.tmp 1) rfl ys (by rfl) ?_; intro w1 hry hp1 hz1))
  rw [HX.out] at hrx
  rw [HY.out] at hry
  have hs1 : w1.heap.size = w.heap.size + 2 := by omega
  rw [hz0] at hry
  go_loopw [6] (fun i wr => ∃ k : Nat, k ≤ 5 ∧ i = .int .i64 (k : Int) ∧ Row wr w.heap.size 159 (us (plusTo x y k)) ∧ Row wr (w.heap.size + 1) 159 (us y) ∧ Row wr (w.heap.size + 2) 159 (us [0, 0, 0, 0, 0]) ∧ Below w.heap.size w wr) (fun i _ => 5 - (intOf i).toNat)
  case atStart => exact ⟨0, by omega, rfl, by rw [plusTo_zero x y hx5]; exact (hrx.pu hp1).alloc _, hry.alloc _, Row.newAt _ _ _ _ hs1 rfl, (hp0.trans hp1).alloc _⟩
  case round =>
    clear hrx hry hp0 hp1
    obtain ⟨k, hk, rfl, hrx, hry, hres, hbel⟩ := hrel
    by_cases hlt : k < 5
    · have hset := plusTo_set x y k hlt
      have hga := getD_le hxb k
      have hgb := getD_le hyb k
      obtain ⟨a, ha⟩ : ∃ a, a = x.getD k 0 := ⟨_, rfl⟩
      obtain ⟨b, hb⟩ : ∃ b, b = y.getD k 0 := ⟨_, rfl⟩
      obtain ⟨v, hv⟩ : ∃ v, v = a + b := ⟨_, rfl⟩
      rw [← ha] at hga hset
      rw [← hb] at hgb hset
      rw [← hv] at hset
      have e1 : (a : Int) + b = v := by omega
      have e2 : IntKind.u64.wrap (v : Int) = v := by rw [IntKind.wrap_u64]; omega
      have hk0 : (0 : Int) ≤ k := by omega
      have hk5 : (k : Int) < 5 := by omega
      have HA := Lib.hid ha
      have HB := Lib.hid hb
      have HS := Lib.hid hset
      clear ha hb hv hset
      go_wp2_with fail
      apply region_last (n := 8) (hn := by kernel_rfl) (hlast := rfl) (hU := by kernel_rfl) (Φs := (Is _ :: Is _ :: Is _ :: Is _ :: Is _ :: Is _ :: Is _ :: Is _ :: [])) (hm := by kernel_rfl) (hE := by kernel_rfl) (hD := by kernel_rfl) (hsize := by kernel_rfl)
      case hop =>
        refine ⟨?_, ?_, ?_, ?_, ?_, ?_, ?_, ?_, trivial⟩
        · intro a' w' hs hp he
          have e5 := hs 5 (by kernel_rfl)
          try simp [Is, Region.binds] at he
          exact op_val rfl (wanted_none rfl) (by first | (go_simp; done) | (go_simp; rfl) | (simp [execOp, Act.eval, go_sem, *]; done) | (simp [execOp, Act.eval, go_sem, *]; rfl)) rfl (Pu.refl _)
        · intro a' w' hs hp he
          have e2 := hs 2 (by kernel_rfl)
          try simp [Is, Region.binds] at he
          exact op_val rfl (wanted_none rfl) (by first | (go_simp; done) | (go_simp; rfl) | (simp [execOp, Act.eval, go_sem, *]; done) | (simp [execOp, Act.eval, go_sem, *]; rfl)) rfl (Pu.refl _)
        · intro a' w' hs hp he
          try simp [Is, Region.binds] at he
          have c := Row.limb (hrx.pu hp) k (by rw [plusTo_length]; omega); rw [plusTo_get _ _ _ hlt, ← HA.out] at c; exact op_val rfl (wanted_none rfl) (by first | (go_simp; done) | (go_simp; rfl)) rfl (Pu.refl _)
        · intro a' w' hs hp he
          have e5 := hs 5 (by kernel_rfl)
          try simp [Is, Region.binds] at he
          exact op_val rfl (wanted_none rfl) (by first | (go_simp; done) | (go_simp; rfl) | (simp [execOp, Act.eval, go_sem, *]; done) | (simp [execOp, Act.eval, go_sem, *]; rfl)) rfl (Pu.refl _)
        · intro a' w' hs hp he
          have e3 := hs 3 (by kernel_rfl)
          try simp [Is, Region.binds] at he
          exact op_val rfl (wanted_none rfl) (by first | (go_simp; done) | (go_simp; rfl) | (simp [execOp, Act.eval, go_sem, *]; done) | (simp [execOp, Act.eval, go_sem, *]; rfl)) rfl (Pu.refl _)
        · intro a' w' hs hp he
          try simp [Is, Region.binds] at he
          have c := Row.limb (hry.pu hp) k (by omega); rw [← HB.out] at c; exact op_val rfl (wanted_none rfl) (by first | (go_simp; done) | (go_simp; rfl)) rfl (Pu.refl _)
        · intro a' w' hs hp he
          try simp [Is, Region.binds] at he
          exact op_val rfl (wanted_none rfl) (by first | (go_simp; done) | (go_simp; rfl) | (simp [execOp, Act.eval, go_sem, *]; done) | (simp [execOp, Act.eval, go_sem, *]; rfl)) rfl (Pu.refl _)
        · intro a' w' hs hp he
          have e2 := hs 2 (by kernel_rfl)
          try simp [Is, Region.binds] at he
          exact op_val rfl (wanted_none rfl) (by first | (go_simp; done) | (go_simp; rfl) | (simp [execOp, Act.eval, go_sem, *]; done) | (simp [execOp, Act.eval, go_sem, *]; rfl)) rfl (Pu.refl _)
      case hend =>
        intro a' w' hdef hsz hs hp hall
        obtain ⟨r0, r1, r2, r3, r4, r5, r6, r7, -⟩ := hall
        have hA := agree_done (agree_step (agree_step (agree_step (agree_step (agree_step (agree_step (agree_step (agree_step (agree_init [9, 10, 11, 12, 13, 14, 15, 16] hsz hs (by kernel_rfl)) r0) r1) r2) r3) r4) r5) r6) r7)
        have ha := act_of hA hdef
        rw [ha]
        clear ha hA hs hsz hdef r0 r1 r2 r3 r4 r5 r6 r7 
        (try simp only [List.setIfInBounds_toArray])
        (try dsimp only [List.set_cons_zero, List.set_cons_succ])
        (try simp only [Exit.then])
        have c := Row.limb (hrx.pu hp) k (by rw [plusTo_length]; omega); rw [plusTo_get _ _ _ hlt, ← HA.out] at c; have hf := (hrx.pu hp).frozen k (by rw [us_length, plusTo_length]; omega)
        refine op_done rfl (wanted_none rfl) (by first | (go_simp; done) | (go_simp; rfl)) ?_
        (try simp only [Exit.inBlock, Exit.then])
        go_wp2_with fail
        go_roundw
        case rel =>
          replace hrx := hrx.pu hp
          replace hry := hry.pu hp
          replace hres := hres.pu hp
          replace hbel := hbel.trans (Below.mono hp hbel.size)
          have h1 := hrx.set k (.int .u64 (v : Int))
          rw [us_set, HS.out] at h1
          first | exact ⟨k + 1, by omega, by go_num, h1, hry.setOther _ _ (by simp), hres.setOther _ _ (by simp), hbel.setCell (by simp) _⟩ | ((repeat apply Exists.intro); exact ⟨⟨k + 1, by omega, by go_num, h1, hry.setOther _ _ (by simp), hres.setOther _ _ (by simp), hbel.setCell (by simp) _⟩, rfl⟩)
        case measure => simp [intOf]; omega
    · obtain rfl : k = 5 := by omega
      have hx := hrx
      rw [plusTo_all] at hx
      obtain ⟨z, hz⟩ : ∃ z, z = us (plus5 x y) := ⟨_, rfl⟩
      have hz5 : z.length = 5 := by rw [hz, us_length]; rfl
      have hz1 : z.all (·.oneCell') = true := by rw [hz]; exact us_one _
      have htk : ((z.drop 0).take 5) = z := by rw [List.drop_zero, List.take_of_length_le (by omega)]
      rw [← hz] at hx
      have hRz : R = z := by rw [HR.out, hz]
      have HRZ := Lib.hid hRz
      clear hz hRz hrx
      go_wp2_with (first
        | (refine wpList_load_part rfl 159 (.tmp 2) rfl (w.heap.size) 0 5 (by rfl) hx Try.underlying159 rfl hi5 (by omega) ?_; rw [htk])
        | (refine wpList_store_part rfl 159 (.tmp 4) (.tmp 18) rfl (w.heap.size + 2) 0 z (by rfl) (by rfl) hres (by rw [hz5]; exact hi5) (by rw [hz5]; decide) hz1 ?_; intro wl hr1 hch))
      rw [splice_all (by rw [hz5]; rfl)] at hr1
      have hrl := hr1.load (P := Try.prog) 159 0 5 Try.underlying159 rfl hi5 (by omega)
      rw [htk] at hrl
      (try simp only [Exit.inBlock, Exit.then])
      refine bodyPost_ret (results_cell_eq rfl _ _ rfl hrl) rfl ?_
      exact ⟨by rw [HRZ.out], hch.below hbel (by omega)⟩
set_option maxRecDepth 100000 in
set_option maxHeartbeats 3200000 in
theorem timesF (x y : List Nat) (hxb : Le5 134217726 x) (hyb : Le5 67108863 y) (xs ys R : List Value) (hxs : xs = us x) (hys : ys = us y) (hR : R = us (carryN (mulN x y))) (w : World) :
    Calls Try.prog 149 #[.agg xs.toArray, .agg ys.toArray] w fun e w' => e = .returned (.agg R.toArray) ∧ Pu w w' := by
  have hi5 : (Try.prog.info? 159).map (·.size) = some 5 := by kernel_rfl
  have hx5 := hxb.1
  have hy5 := hyb.1
  have HX := Lib.hid hxs
  have HY := Lib.hid hys
  have HR := Lib.hid hR
  clear hxs hys hR
  go_enter Try.func149, Try.ntmps149
  go_wp2_with (first
    | (refine wpList_box rfl 159 (.tmp 0) rfl xs (by rfl) ?_; intro w0 hrx hp0 hz0)
    | (refine wpList_box rfl 159 (.tmp 1) rfl ys (by rfl) ?_; intro w1 hry hp1 hz1))
  rw [HX.out] at hrx
  rw [HY.out] at hry
  have hs1 : w1.heap.size = w.heap.size + 2 := by omega
  rw [hz0] at hry
  go_loopw [8] (fun i wr => ∃ k : Nat, k ≤ 5 ∧ i = .int .i64 (k : Int) ∧ Row wr w.heap.size 159 (us x) ∧ Row wr (w.heap.size + 1) 159 (us y) ∧ Row wr (w.heap.size + 2) 159 (us [0, 0, 0, 0, 0]) ∧ Row wr (w.heap.size + 3) 159 (us (mulAt x y k 0)) ∧ Below w.heap.size w wr) (fun i _ => 5 - (intOf i).toNat)
  case atStart => exact ⟨0, by omega, rfl, ((hrx.pu hp1).alloc _).alloc _, (hry.alloc _).alloc _, (Row.newAt _ _ _ _ hs1 rfl).alloc _, Row.newAt _ _ _ _ (by simp; omega) rfl, Pu.alloc (Pu.alloc (hp0.trans hp1) _) _⟩
  case round =>
    clear hrx hry hp0 hp1
    obtain ⟨i, hi, rfl, hrx, hry, hres, hro, hbel⟩ := hrel
    by_cases hlt : i < 5
    · have hi0 : (0 : Int) ≤ i := by omega
      have hi5' : (i : Int) < 5 := by omega
      go_wp2_with fail
      go_loopw [11] (fun v wq => ∃ j : Nat, j ≤ 5 ∧ v = .int .i64 (j : Int) ∧ Row wq w.heap.size 159 (us x) ∧ Row wq (w.heap.size + 1) 159 (us y) ∧ Row wq (w.heap.size + 2) 159 (us [0, 0, 0, 0, 0]) ∧ Row wq (w.heap.size + 3) 159 (us (mulAt x y i j)) ∧ Below w.heap.size w wq) (fun v _ => 5 - (intOf v).toNat)
      case atStart => exact ⟨0, by omega, rfl, hrx, hry, hres, hro, hbel⟩
      case round =>
        clear hrx hry hres hro hbel
        obtain ⟨j, hj, rfl, hrx, hry, hres, hro, hbel⟩ := hrel
        by_cases hjt : j < 5
        · have hset := mulAt_set x y i j hlt
          have hcl := col_le hxb hyb i j
          have hga := getD_le hxb j
          have hj0 : (0 : Int) ≤ j := by omega
          have hj5 : (j : Int) < 5 := by omega
          have hcs : col x y i (j+1) = col x y i j + tm x y i j := rfl
          by_cases hji : j ≤ i
          · have htm : tm x y i j = x.getD j 0 * y.getD (i - j) 0 := by rw [tm, if_pos hji]
            obtain ⟨d, hd⟩ : ∃ d, d = i - j := ⟨_, rfl⟩
            have hgb := getD_le hyb d
            rw [← hd] at htm
            obtain ⟨a, ha⟩ : ∃ a, a = x.getD j 0 := ⟨_, rfl⟩
            obtain ⟨b, hb⟩ : ∃ b, b = y.getD d 0 := ⟨_, rfl⟩
            obtain ⟨o, ho⟩ : ∃ o, o = col x y i j := ⟨_, rfl⟩
            obtain ⟨p, hp⟩ : ∃ p, p = a * b := ⟨_, rfl⟩
            obtain ⟨v, hv⟩ : ∃ v, v = o + p := ⟨_, rfl⟩
            rw [← ha] at hga htm
            rw [← hb] at hgb htm
            rw [← hp] at htm
            rw [htm, ← ho, ← hv] at hcs
            rw [hcs] at hset
            rw [← ho] at hcl
            have hpl : p ≤ 134217726 * 67108863 := by rw [hp]; exact Nat.mul_le_mul hga hgb
            have hcl2 : j * (134217726 * 67108863 * 5) ≤ 5 * (134217726 * 67108863 * 5) := Nat.mul_le_mul_right _ hj
            have hd5 : d < 5 := by omega
            have e0 : (i : Int) - j = d := by omega
            have e0' : IntKind.i64.wrap (d : Int) = d := by rw [IntKind.wrap_i64]; omega
            have hd0 : (0 : Int) ≤ d := by omega
            have hd5' : (d : Int) < 5 := by omega
            have e1 : (a : Int) * b = p := by rw [hp]; simp
            have e2 : IntKind.u64.wrap (p : Int) = p := by rw [IntKind.wrap_u64]; omega
            have e3 : (o : Int) + p = v := by omega
            have e4 : IntKind.u64.wrap (v : Int) = v := by rw [IntKind.wrap_u64]; omega
            have hji' : (j : Int) ≤ i := by omega
            have HA := Lib.hid ha
            have HB := Lib.hid hb
            have HO := Lib.hid ho
            have HS := Lib.hid hset
            clear ha hb ho hp hv hset hcs htm hd hcl hcl2
            go_wp2_with fail
            apply region_last (n := 14) (hn := by kernel_rfl) (hlast := rfl) (hU := by kernel_rfl) (Φs := (Is _ :: Is _ :: Is _ :: Is _ :: Is _ :: Is _ :: Is _ :: Is _ :: Is _ :: Is _ :: Is _ :: Is _ :: Is _ :: Is _ :: [])) (hm := by kernel_rfl) (hE := by kernel_rfl) (hD := by kernel_rfl) (hsize := by kernel_rfl)
            case hop =>
              refine ⟨?_, ?_, ?_, ?_, ?_, ?_, ?_, ?_, ?_, ?_, ?_, ?_, ?_, ?_, trivial⟩
              · intro a' w' hs hp he
                have e6 := hs 6 (by kernel_rfl)
                try simp [Is, Region.binds] at he
                exact op_val rfl (wanted_none rfl) (by first | (go_simp; done) | (go_simp; rfl) | (simp [execOp, Act.eval, go_sem, *]; done) | (simp [execOp, Act.eval, go_sem, *]; rfl)) rfl (Pu.refl _)
              · intro a' w' hs hp he
                have e5 := hs 5 (by kernel_rfl)
                try simp [Is, Region.binds] at he
                exact op_val rfl (wanted_none rfl) (by first | (go_simp; done) | (go_simp; rfl) | (simp [execOp, Act.eval, go_sem, *]; done) | (simp [execOp, Act.eval, go_sem, *]; rfl)) rfl (Pu.refl _)
              · intro a' w' hs hp he
                try simp [Is, Region.binds] at he
                have c := Row.limb (hro.pu hp) i (by rw [mulAt_length]; omega); rw [mulAt_get _ _ _ _ hlt, ← HO.out] at c; exact op_val rfl (wanted_none rfl) (by first | (go_simp; done) | (go_simp; rfl)) rfl (Pu.refl _)
              · intro a' w' hs hp he
                have e7 := hs 7 (by kernel_rfl)
                try simp [Is, Region.binds] at he
                exact op_val rfl (wanted_none rfl) (by first | (go_simp; done) | (go_simp; rfl) | (simp [execOp, Act.eval, go_sem, *]; done) | (simp [execOp, Act.eval, go_sem, *]; rfl)) rfl (Pu.refl _)
              · intro a' w' hs hp he
                have e2 := hs 2 (by kernel_rfl)
                try simp [Is, Region.binds] at he
                exact op_val rfl (wanted_none rfl) (by first | (go_simp; done) | (go_simp; rfl) | (simp [execOp, Act.eval, go_sem, *]; done) | (simp [execOp, Act.eval, go_sem, *]; rfl)) rfl (Pu.refl _)
              · intro a' w' hs hp he
                try simp [Is, Region.binds] at he
                have c := Row.limb (hrx.pu hp) j (by omega); rw [← HA.out] at c; exact op_val rfl (wanted_none rfl) (by first | (go_simp; done) | (go_simp; rfl)) rfl (Pu.refl _)
              · intro a' w' hs hp he
                have e6 := hs 6 (by kernel_rfl)
                try simp [Is, Region.binds] at he
                exact op_val rfl (wanted_none rfl) (by first | (go_simp; done) | (go_simp; rfl) | (simp [execOp, Act.eval, go_sem, *]; done) | (simp [execOp, Act.eval, go_sem, *]; rfl)) rfl (Pu.refl _)
              · intro a' w' hs hp he
                have e7 := hs 7 (by kernel_rfl)
                try simp [Is, Region.binds] at he
                exact op_val rfl (wanted_none rfl) (by first | (go_simp; done) | (go_simp; rfl) | (simp [execOp, Act.eval, go_sem, *]; done) | (simp [execOp, Act.eval, go_sem, *]; rfl)) rfl (Pu.refl _)
              · intro a' w' hs hp he
                try simp [Is, Region.binds] at he
                exact op_val rfl (wanted_none rfl) (by first | (go_simp; done) | (go_simp; rfl) | (simp [execOp, Act.eval, go_sem, *]; done) | (simp [execOp, Act.eval, go_sem, *]; rfl)) rfl (Pu.refl _)
              · intro a' w' hs hp he
                have e3 := hs 3 (by kernel_rfl)
                try simp [Is, Region.binds] at he
                exact op_val rfl (wanted_none rfl) (by first | (go_simp; done) | (go_simp; rfl) | (simp [execOp, Act.eval, go_sem, *]; done) | (simp [execOp, Act.eval, go_sem, *]; rfl)) rfl (Pu.refl _)
              · intro a' w' hs hp he
                try simp [Is, Region.binds] at he
                have c := Row.limb (hry.pu hp) d (by omega); rw [← HB.out] at c; exact op_val rfl (wanted_none rfl) (by first | (go_simp; done) | (go_simp; rfl)) rfl (Pu.refl _)
              · intro a' w' hs hp he
                try simp [Is, Region.binds] at he
                exact op_val rfl (wanted_none rfl) (by first | (go_simp; done) | (go_simp; rfl) | (simp [execOp, Act.eval, go_sem, *]; done) | (simp [execOp, Act.eval, go_sem, *]; rfl)) rfl (Pu.refl _)
              · intro a' w' hs hp he
                try simp [Is, Region.binds] at he
                exact op_val rfl (wanted_none rfl) (by first | (go_simp; done) | (go_simp; rfl) | (simp [execOp, Act.eval, go_sem, *]; done) | (simp [execOp, Act.eval, go_sem, *]; rfl)) rfl (Pu.refl _)
              · intro a' w' hs hp he
                have e5 := hs 5 (by kernel_rfl)
                try simp [Is, Region.binds] at he
                exact op_val rfl (wanted_none rfl) (by first | (go_simp; done) | (go_simp; rfl) | (simp [execOp, Act.eval, go_sem, *]; done) | (simp [execOp, Act.eval, go_sem, *]; rfl)) rfl (Pu.refl _)
            case hend =>
              intro a' w' hdef hsz hs hp hall
              obtain ⟨r0, r1, r2, r3, r4, r5, r6, r7, r8, r9, r10, r11, r12, r13, -⟩ := hall
              have hA := agree_done (agree_step (agree_step (agree_step (agree_step (agree_step (agree_step (agree_step (agree_step (agree_step (agree_step (agree_step (agree_step (agree_step (agree_step (agree_init [17, 18, 19, 20, 21, 22, 23, 24, 25, 26, 27, 28, 29, 30] hsz hs (by kernel_rfl)) r0) r1) r2) r3) r4) r5) r6) r7) r8) r9) r10) r11) r12) r13)
              have ha := act_of hA hdef
              rw [ha]
              clear ha hA hs hsz hdef r0 r1 r2 r3 r4 r5 r6 r7 r8 r9 r10 r11 r12 r13 
              (try simp only [List.setIfInBounds_toArray])
              (try dsimp only [List.set_cons_zero, List.set_cons_succ])
              (try simp only [Exit.then])
              have c := Row.limb (hro.pu hp) i (by rw [mulAt_length]; omega); rw [mulAt_get _ _ _ _ hlt, ← HO.out] at c; have hf := (hro.pu hp).frozen i (by rw [us_length, mulAt_length]; omega)
              refine op_done rfl (wanted_none rfl) (by first | (go_simp; done) | (go_simp; rfl)) ?_
              (try simp only [Exit.inBlock, Exit.then])
              go_wp2_with fail
              go_roundw
              case rel =>
                replace hrx := hrx.pu hp
                replace hry := hry.pu hp
                replace hres := hres.pu hp
                replace hro := hro.pu hp
                replace hbel := hbel.trans (Below.mono hp hbel.size)
                have h1 := hro.set i (.int .u64 (v : Int))
                rw [us_set, HS.out] at h1
                have h2 := hrx.setOther (⟨w.heap.size + 3, i, none⟩ : Addr) (.int .u64 (v : Int)) (by simp)
                have h3 := hry.setOther (⟨w.heap.size + 3, i, none⟩ : Addr) (.int .u64 (v : Int)) (by simp)
                have h4 := hres.setOther (⟨w.heap.size + 3, i, none⟩ : Addr) (.int .u64 (v : Int)) (by simp)
                have h5 := hbel.setCell (p := (⟨w.heap.size + 3, i, none⟩ : Addr)) (by simp) (.int .u64 (v : Int))
                first | exact ⟨j + 1, by omega, by go_num, h2, h3, h4, h1, h5⟩ | ((repeat apply Exists.intro); exact ⟨⟨j + 1, by omega, by go_num, h2, h3, h4, h1, h5⟩, rfl⟩)
              case measure => simp [intOf]; omega
          · have htm : tm x y i j = x.getD j 0 * y.getD (5 + i - j) 0 * 5 := by rw [tm, if_neg hji]
            obtain ⟨d, hd⟩ : ∃ d, d = 5 + i - j := ⟨_, rfl⟩
            have hgb := getD_le hyb d
            rw [← hd] at htm
            obtain ⟨a, ha⟩ : ∃ a, a = x.getD j 0 := ⟨_, rfl⟩
            obtain ⟨b, hb⟩ : ∃ b, b = y.getD d 0 := ⟨_, rfl⟩
            obtain ⟨o, ho⟩ : ∃ o, o = col x y i j := ⟨_, rfl⟩
            obtain ⟨p, hp⟩ : ∃ p, p = a * b := ⟨_, rfl⟩
            obtain ⟨p5, hp5⟩ : ∃ q, q = p * 5 := ⟨_, rfl⟩
            obtain ⟨v, hv⟩ : ∃ v, v = o + p5 := ⟨_, rfl⟩
            rw [← ha] at hga htm
            rw [← hb] at hgb htm
            rw [← hp, ← hp5] at htm
            rw [htm, ← ho, ← hv] at hcs
            rw [hcs] at hset
            rw [← ho] at hcl
            have hpl : p ≤ 134217726 * 67108863 := by rw [hp]; exact Nat.mul_le_mul hga hgb
            have hcl2 : j * (134217726 * 67108863 * 5) ≤ 5 * (134217726 * 67108863 * 5) := Nat.mul_le_mul_right _ hj
            have hd5 : d < 5 := by omega
            obtain ⟨s5, hs5⟩ : ∃ s : Nat, s = 5 + i := ⟨_, rfl⟩
            have e05 : IntKind.i64.wrap (5 + (i : Int)) = s5 := by rw [IntKind.wrap_i64]; omega
            have e06 : (5 : Int) + i = s5 := by omega
            have e00 : (s5 : Int) - j = d := by omega
            have e07 : IntKind.i64.wrap (s5 : Int) = s5 := by rw [IntKind.wrap_i64]; omega
            have e0' : IntKind.i64.wrap (d : Int) = d := by rw [IntKind.wrap_i64]; omega
            have hd0 : (0 : Int) ≤ d := by omega
            have hd5' : (d : Int) < 5 := by omega
            have e1 : (a : Int) * b = p := by rw [hp]; simp
            have e2 : IntKind.u64.wrap (p : Int) = p := by rw [IntKind.wrap_u64]; omega
            have e15 : (p : Int) * 5 = p5 := by omega
            have e25 : IntKind.u64.wrap (p5 : Int) = p5 := by rw [IntKind.wrap_u64]; omega
            have e3 : (o : Int) + p5 = v := by omega
            have e4 : IntKind.u64.wrap (v : Int) = v := by rw [IntKind.wrap_u64]; omega
            have hji' : decide ((j : Int) ≤ i) = false := by simp; omega
            have HA := Lib.hid ha
            have HB := Lib.hid hb
            have HO := Lib.hid ho
            have HS := Lib.hid hset
            clear ha hb ho hp hp5 hv hset hcs htm hd hcl hcl2 hs5
            go_wp2_with fail
            apply region_last (n := 16) (hn := by kernel_rfl) (hlast := rfl) (hU := by kernel_rfl) (Φs := (Is _ :: Is _ :: Is _ :: Is _ :: Is _ :: Is _ :: Is _ :: Is _ :: Is _ :: Is _ :: Is _ :: Is _ :: Is _ :: Is _ :: Is _ :: Is _ :: [])) (hm := by kernel_rfl) (hE := by kernel_rfl) (hD := by kernel_rfl) (hsize := by kernel_rfl)
            case hop =>
              refine ⟨?_, ?_, ?_, ?_, ?_, ?_, ?_, ?_, ?_, ?_, ?_, ?_, ?_, ?_, ?_, ?_, trivial⟩
              · intro a' w' hs hp he
                have e6 := hs 6 (by kernel_rfl)
                try simp [Is, Region.binds] at he
                exact op_val rfl (wanted_none rfl) (by first | (go_simp; done) | (go_simp; rfl) | (simp [execOp, Act.eval, go_sem, *]; done) | (simp [execOp, Act.eval, go_sem, *]; rfl)) rfl (Pu.refl _)
              · intro a' w' hs hp he
                have e5 := hs 5 (by kernel_rfl)
                try simp [Is, Region.binds] at he
                exact op_val rfl (wanted_none rfl) (by first | (go_simp; done) | (go_simp; rfl) | (simp [execOp, Act.eval, go_sem, *]; done) | (simp [execOp, Act.eval, go_sem, *]; rfl)) rfl (Pu.refl _)
              · intro a' w' hs hp he
                try simp [Is, Region.binds] at he
                have c := Row.limb (hro.pu hp) i (by rw [mulAt_length]; omega); rw [mulAt_get _ _ _ _ hlt, ← HO.out] at c; exact op_val rfl (wanted_none rfl) (by first | (go_simp; done) | (go_simp; rfl)) rfl (Pu.refl _)
              · intro a' w' hs hp he
                have e7 := hs 7 (by kernel_rfl)
                try simp [Is, Region.binds] at he
                exact op_val rfl (wanted_none rfl) (by first | (go_simp; done) | (go_simp; rfl) | (simp [execOp, Act.eval, go_sem, *]; done) | (simp [execOp, Act.eval, go_sem, *]; rfl)) rfl (Pu.refl _)
              · intro a' w' hs hp he
                have e2 := hs 2 (by kernel_rfl)
                try simp [Is, Region.binds] at he
                exact op_val rfl (wanted_none rfl) (by first | (go_simp; done) | (go_simp; rfl) | (simp [execOp, Act.eval, go_sem, *]; done) | (simp [execOp, Act.eval, go_sem, *]; rfl)) rfl (Pu.refl _)
              · intro a' w' hs hp he
                try simp [Is, Region.binds] at he
                have c := Row.limb (hrx.pu hp) j (by omega); rw [← HA.out] at c; exact op_val rfl (wanted_none rfl) (by first | (go_simp; done) | (go_simp; rfl)) rfl (Pu.refl _)
              · intro a' w' hs hp he
                have e6 := hs 6 (by kernel_rfl)
                try simp [Is, Region.binds] at he
                exact op_val rfl (wanted_none rfl) (by first | (go_simp; done) | (go_simp; rfl) | (simp [execOp, Act.eval, go_sem, *]; done) | (simp [execOp, Act.eval, go_sem, *]; rfl)) rfl (Pu.refl _)
              · intro a' w' hs hp he
                try simp [Is, Region.binds] at he
                exact op_val rfl (wanted_none rfl) (by first | (go_simp; done) | (go_simp; rfl) | (simp [execOp, Act.eval, go_sem, *]; done) | (simp [execOp, Act.eval, go_sem, *]; rfl)) rfl (Pu.refl _)
              · intro a' w' hs hp he
                have e7 := hs 7 (by kernel_rfl)
                try simp [Is, Region.binds] at he
                exact op_val rfl (wanted_none rfl) (by first | (go_simp; done) | (go_simp; rfl) | (simp [execOp, Act.eval, go_sem, *]; done) | (simp [execOp, Act.eval, go_sem, *]; rfl)) rfl (Pu.refl _)
              · intro a' w' hs hp he
                try simp [Is, Region.binds] at he
                exact op_val rfl (wanted_none rfl) (by first | (go_simp; done) | (go_simp; rfl) | (simp [execOp, Act.eval, go_sem, *]; done) | (simp [execOp, Act.eval, go_sem, *]; rfl)) rfl (Pu.refl _)
              · intro a' w' hs hp he
                have e3 := hs 3 (by kernel_rfl)
                try simp [Is, Region.binds] at he
                exact op_val rfl (wanted_none rfl) (by first | (go_simp; done) | (go_simp; rfl) | (simp [execOp, Act.eval, go_sem, *]; done) | (simp [execOp, Act.eval, go_sem, *]; rfl)) rfl (Pu.refl _)
              · intro a' w' hs hp he
                try simp [Is, Region.binds] at he
                have c := Row.limb (hry.pu hp) d (by omega); rw [← HB.out] at c; exact op_val rfl (wanted_none rfl) (by first | (go_simp; done) | (go_simp; rfl)) rfl (Pu.refl _)
              · intro a' w' hs hp he
                try simp [Is, Region.binds] at he
                exact op_val rfl (wanted_none rfl) (by first | (go_simp; done) | (go_simp; rfl) | (simp [execOp, Act.eval, go_sem, *]; done) | (simp [execOp, Act.eval, go_sem, *]; rfl)) rfl (Pu.refl _)
              · intro a' w' hs hp he
                try simp [Is, Region.binds] at he
                exact op_val rfl (wanted_none rfl) (by first | (go_simp; done) | (go_simp; rfl) | (simp [execOp, Act.eval, go_sem, *]; done) | (simp [execOp, Act.eval, go_sem, *]; rfl)) rfl (Pu.refl _)
              · intro a' w' hs hp he
                try simp [Is, Region.binds] at he
                exact op_val rfl (wanted_none rfl) (by first | (go_simp; done) | (go_simp; rfl) | (simp [execOp, Act.eval, go_sem, *]; done) | (simp [execOp, Act.eval, go_sem, *]; rfl)) rfl (Pu.refl _)
              · intro a' w' hs hp he
                have e5 := hs 5 (by kernel_rfl)
                try simp [Is, Region.binds] at he
                exact op_val rfl (wanted_none rfl) (by first | (go_simp; done) | (go_simp; rfl) | (simp [execOp, Act.eval, go_sem, *]; done) | (simp [execOp, Act.eval, go_sem, *]; rfl)) rfl (Pu.refl _)
            case hend =>
              intro a' w' hdef hsz hs hp hall
              obtain ⟨r0, r1, r2, r3, r4, r5, r6, r7, r8, r9, r10, r11, r12, r13, r14, r15, -⟩ := hall
              have hA := agree_done (agree_step (agree_step (agree_step (agree_step (agree_step (agree_step (agree_step (agree_step (agree_step (agree_step (agree_step (agree_step (agree_step (agree_step (agree_step (agree_step (agree_init [31, 32, 33, 34, 35, 36, 37, 38, 39, 40, 41, 42, 43, 44, 45, 46] hsz hs (by kernel_rfl)) r0) r1) r2) r3) r4) r5) r6) r7) r8) r9) r10) r11) r12) r13) r14) r15)
              have ha := act_of hA hdef
              rw [ha]
              clear ha hA hs hsz hdef r0 r1 r2 r3 r4 r5 r6 r7 r8 r9 r10 r11 r12 r13 r14 r15 
              (try simp only [List.setIfInBounds_toArray])
              (try dsimp only [List.set_cons_zero, List.set_cons_succ])
              (try simp only [Exit.then])
              have c := Row.limb (hro.pu hp) i (by rw [mulAt_length]; omega); rw [mulAt_get _ _ _ _ hlt, ← HO.out] at c; have hf := (hro.pu hp).frozen i (by rw [us_length, mulAt_length]; omega)
              refine op_done rfl (wanted_none rfl) (by first | (go_simp; done) | (go_simp; rfl)) ?_
              (try simp only [Exit.inBlock, Exit.then])
              go_wp2_with fail
              go_roundw
              case rel =>
                replace hrx := hrx.pu hp
                replace hry := hry.pu hp
                replace hres := hres.pu hp
                replace hro := hro.pu hp
                replace hbel := hbel.trans (Below.mono hp hbel.size)
                have h1 := hro.set i (.int .u64 (v : Int))
                rw [us_set, HS.out] at h1
                have h2 := hrx.setOther (⟨w.heap.size + 3, i, none⟩ : Addr) (.int .u64 (v : Int)) (by simp)
                have h3 := hry.setOther (⟨w.heap.size + 3, i, none⟩ : Addr) (.int .u64 (v : Int)) (by simp)
                have h4 := hres.setOther (⟨w.heap.size + 3, i, none⟩ : Addr) (.int .u64 (v : Int)) (by simp)
                have h5 := hbel.setCell (p := (⟨w.heap.size + 3, i, none⟩ : Addr)) (by simp) (.int .u64 (v : Int))
                first | exact ⟨j + 1, by omega, by go_num, h2, h3, h4, h1, h5⟩ | ((repeat apply Exists.intro); exact ⟨⟨j + 1, by omega, by go_num, h2, h3, h4, h1, h5⟩, rfl⟩)
              case measure => simp [intOf]; omega
        · obtain rfl : j = 5 := by omega
          rw [mulAt_next _ _ _ hlt] at hro
          go_wp2_with fail
          go_roundw
          case rel => first | exact ⟨i + 1, by omega, by go_num, hrx, hry, hres, hro, hbel⟩ | ((repeat apply Exists.intro); exact ⟨⟨i + 1, by omega, by go_num, hrx, hry, hres, hro, hbel⟩, rfl⟩)
          case measure => simp [intOf]; omega
    · obtain rfl : i = 5 := by omega
      have hmb := (mulN_le hxb hyb).mono (b := 4611686018427387903) (by decide)
      rw [show mulAt x y 5 0 = mulN x y from rfl] at hro
      obtain ⟨m, hm⟩ : ∃ m, m = mulN x y := ⟨_, rfl⟩
      rw [← hm] at hro hmb
      have hx := hro
      obtain ⟨mv, hmv⟩ : ∃ z, z = us m := ⟨_, rfl⟩
      have hmv5 : mv.length = 5 := by rw [hmv, us_length]; exact hmb.1
      obtain ⟨z, hz⟩ : ∃ z, z = us (carryN m) := ⟨_, rfl⟩
      have hz5 : z.length = 5 := by rw [hz, us_length, carryN, passes_length]; exact hmb.1
      have hz1 : z.all (·.oneCell') = true := by rw [hz]; exact us_one _
      have htk : ((z.drop 0).take 5) = z := by rw [List.drop_zero, List.take_of_length_le (by omega)]
      have htk2 : ((mv.drop 0).take 5) = mv := by rw [List.drop_zero, List.take_of_length_le (by omega)]
      rw [← hmv] at hx
      have hC := fun w => carryF m hmb mv z hmv hz w
      have hRz : R = z := by rw [HR.out, hz, hm]
      have HRZ := Lib.hid hRz
      have HC := Lib.hid hC
      clear hz hRz hrx hry hro hm hmv hC
      go_wp2_with (first
        | (refine wpList_load_part rfl 159 (.tmp 5) rfl (w.heap.size + 3) 0 5 (by rfl) hx Try.underlying159 rfl hi5 (by omega) ?_; rw [htk2])
        | (go_at_call 160; refine (HC.out _).mono ?_; rintro e w4 ⟨rfl, hp4⟩; replace hres := hres.pu hp4; replace hbel := hbel.trans (Below.mono hp4 hbel.size))
        | (refine wpList_store_part rfl 159 (.tmp 4) (.tmp 50) rfl (w.heap.size + 2) 0 z (by rfl) (by rfl) hres (by rw [hz5]; exact hi5) (by rw [hz5]; decide) hz1 ?_; intro wl hr1 hch))
      rw [splice_all (by rw [hz5]; rfl)] at hr1
      have hrl := hr1.load (P := Try.prog) 159 0 5 Try.underlying159 rfl hi5 (by omega)
      rw [htk] at hrl
      (try simp only [Exit.inBlock, Exit.then])
      refine bodyPost_ret (results_cell_eq rfl _ _ rfl hrl) rfl ?_
      exact ⟨by rw [HRZ.out], hch.below hbel (by omega)⟩
end Go.Proofs.Ytdjbhbefghihcaa
