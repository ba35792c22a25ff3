/- Limbs: the number below the modulus, limbs of bytes; the first half of a key. The first half of a key, without some bits: package onetime's. The code of bytes under a key: package onetime's. -/
import Derived.Test.YtoakccknimoogaaGreatT9
import Derived.Lib.SlBuf
import Derived.Shelf.Spec.BitsCarry
import Derived.Deep.OwnRows
set_option linter.unusedSimpArgs false
set_option linter.unusedVariables false
set_option linter.unusedSimpArgs false
set_option linter.unusedVariables false
namespace Go.Esc
open Go Go.RowKit
theorem wholeN_if (l : List Nat) : wholeN l = if 0 < (cr (carryN l) 5 5).2 then (cr (carryN l) 5 5).1 else carryN l := rfl
theorem and8 (c : UInt8) (m : UInt8) : Go.bits .and .u8 (c.toNat : Int) (m.toNat : Int) = ((c &&& m).toNat : Int) := by
 rw [u8_and_nat _ _ c.toNat_lt m.toNat_lt, UInt8.toNat_and]
def clampTo (key : Bs) (k : Nat) : Bs := (List.range 16).map fun i => if i < k then clampB i (key.getD i 0) else key.getD i 0
theorem clampTo_length (key : Bs) (k : Nat) : (clampTo key k).length = 16 := by simp [clampTo]
theorem clampTo_zero (key : Bs) (h : 16 ≤ key.length) : clampTo key 0 = key.take 16 := by
 apply List.ext_getElem
 · simp [clampTo]; omega
 · intro i h1 h2
   simp only [clampTo_length] at h1
   simp [clampTo, List.getD_eq_getElem?_getD, List.getElem?_eq_getElem (show i < key.length by omega)]
theorem clampTo_all (key : Bs) : clampTo key 16 = clampL key := by
 apply List.ext_getElem
 · simp [clampTo, clampL]
 · intro i h1 h2
   simp only [clampTo_length] at h1
   simp [clampTo, clampL, h1]
theorem clampTo_set (key : Bs) (k : Nat) (h : k < 16) : (clampTo key k).set k (clampB k (key.getD k 0)) = clampTo key (k+1) := by
 apply List.ext_getElem
 · simp [clampTo]
 · intro i h1 h2
   simp only [clampTo_length] at h2
   rw [List.getElem_set]
   by_cases hki : k = i
   · subst hki; simp [clampTo]
   · rw [if_neg hki]
     simp only [clampTo, List.getElem_map, List.getElem_range]
     by_cases h3 : i < k
     · rw [if_pos h3, if_pos (by omega)]
     · rw [if_neg h3, if_neg (by omega)]
theorem clampTo_get (key : Bs) (k : Nat) (h : k < 16) : (clampTo key k)[k]'(by rw [clampTo_length]; exact h) = key.getD k 0 := by simp [clampTo]
theorem clampTo_same (key : Bs) (k : Nat) (h : k < 16) (hc : clampB k (key.getD k 0) = key.getD k 0) : clampTo key k = clampTo key (k+1) := by
 rw [← clampTo_set key k h, hc, ← clampTo_get key k h, List.set_getElem_self]
end Go.Esc
namespace Go.Proofs.YtoakccknimoogaaGreat
open Go.RowKit Go.Esc
set_option maxRecDepth 100000 in
set_option maxHeartbeats 1600000 in
theorem splitF (low high top : Nat) (hl : low < 18446744073709551616) (hh : high < 18446744073709551616) (ht : top ≤ 1) (R : List Value) (hR : R = us (split5 low high top)) (w : World) :
 Calls Tryz.prog 147 #[.int .u64 (low : Int), .int .u64 (high : Int), .int .u64 (top : Int)] w fun e w' => e = .returned (.agg R.toArray) ∧ Pu w w' := by
 have hi5 : (Tryz.prog.info? 206).map (·.size) = some 5 := by kernel_rfl
 obtain ⟨a0, ha0⟩ : ∃ v, v = low % 67108864 := ⟨_, rfl⟩
 obtain ⟨q1, hq1⟩ : ∃ v, v = low / 67108864 := ⟨_, rfl⟩
 obtain ⟨a1, ha1⟩ : ∃ v, v = q1 % 67108864 := ⟨_, rfl⟩
 obtain ⟨q2, hq2⟩ : ∃ v, v = low / 4503599627370496 := ⟨_, rfl⟩
 obtain ⟨m2, hm2⟩ : ∃ v, v = high % 4503599627370496 := ⟨_, rfl⟩
 obtain ⟨h2, hh2⟩ : ∃ v, v = m2 * 2 ^ 12 := ⟨_, rfl⟩
 obtain ⟨o2, ho2⟩ : ∃ v, v = q2 + m2 * 2 ^ 12 := ⟨_, rfl⟩
 obtain ⟨a2, ha2⟩ : ∃ v, v = o2 % 67108864 := ⟨_, rfl⟩
 obtain ⟨q3, hq3⟩ : ∃ v, v = high / 16384 := ⟨_, rfl⟩
 obtain ⟨a3, ha3⟩ : ∃ v, v = q3 % 67108864 := ⟨_, rfl⟩
 obtain ⟨q4, hq4⟩ : ∃ v, v = high / 1099511627776 := ⟨_, rfl⟩
 obtain ⟨t4, ht4⟩ : ∃ v, v = top * 2 ^ 24 := ⟨_, rfl⟩
 obtain ⟨a4, ha4⟩ : ∃ v, v = q4 + top * 2 ^ 24 := ⟨_, rfl⟩
 have hfin : R = us [a0, a1, a2, a3, a4] := by
  rw [hR, split5]
  congr 1
  simp only [List.cons.injEq, and_true]
  refine ⟨ha0.symm, by rw [ha1, hq1], by omega, by rw [ha3, hq3], by omega⟩
 have e0 : Go.bits .and .u64 (low : Int) 67108863 = (a0 : Int) := by rw [and26 low hl, ha0]
 have e1 : (low : Int) / 67108864 = q1 := by omega
 have e2 : Go.bits .and .u64 (q1 : Int) 67108863 = (a1 : Int) := by rw [and26 q1 (by omega), ha1]
 have e3 : (low : Int) / 4503599627370496 = q2 := by omega
 have e4 : (high : Int) * 4096 % 18446744073709551616 = h2 := by omega
 have e4' : IntKind.u64.wrap ((high : Int) * 4096) = h2 := by rw [IntKind.wrap_u64]; omega
 have e5 : Go.bits .or .u64 (q2 : Int) (h2 : Int) = (o2 : Int) := by rw [hh2, or_low 12 q2 m2 (by omega) (by omega), ho2]
 have e6 : Go.bits .and .u64 (o2 : Int) 67108863 = (a2 : Int) := by rw [and26 o2 (by omega), ha2]
 have e7 : (high : Int) / 16384 = q3 := by omega
 have e8 : Go.bits .and .u64 (q3 : Int) 67108863 = (a3 : Int) := by rw [and26 q3 (by omega), ha3]
 have e9 : (high : Int) / 1099511627776 = q4 := by omega
 have e10 : (top : Int) * 16777216 = t4 := by omega
 have e10' : IntKind.u64.wrap (t4 : Int) = t4 := by rw [IntKind.wrap_u64]; omega
 have e10'' : (t4 : Int) % 18446744073709551616 = t4 := by omega
 have e11 : Go.bits .or .u64 (q4 : Int) (t4 : Int) = (a4 : Int) := by rw [ht4, or_low 24 q4 top (by omega) (by omega), ha4]
 have hR5 : R.length = 5 := by rw [hfin, us_length]; rfl
 have hR1 : R.all (·.oneCell') = true := by rw [hfin]; exact us_one _
 have htk : ((R.drop 0).take 5) = R := by rw [List.drop_zero, List.take_of_length_le (by omega)]
 have HFIN := Lib.hid hfin
 clear hR hfin ha0 hq1 ha1 hq2 hm2 hh2 ho2 ha2 hq3 ha3 hq4 ht4 ha4 hl hh ht
 go_enter Tryz.func147, Tryz.ntmps147
 go_wp2_with (first
  | (refine wpList_built rfl 206 _ rfl R (by rw [HFIN.out]; kernel_rfl) ?_)
  | (refine wpList_store_part rfl 206 (.tmp 6) (.tmp 26) rfl w.heap.size 0 R (by rfl) (by rfl) (Row.new _ _ _) (by rw [hR5]; exact hi5) (by rw [hR5]; decide) hR1 ?_; intro w1 hr1 hch))
 rw [splice_all (by rw [hR5]; rfl)] at hr1
 have hrl := hr1.load (P := Tryz.prog) 206 0 5 Tryz.underlying206 rfl hi5 (by omega)
 rw [htk] at hrl
 refine bodyPost_ret (results_cell_eq rfl _ _ rfl hrl) rfl ?_
 exact ⟨rfl, hch.below ((Pu.refl w).alloc _) (Nat.le_refl _)⟩
set_option maxRecDepth 100000 in
set_option maxHeartbeats 1600000 in
theorem wholeF (l : List Nat) (hl : Le5 4611686018427387903 l) (xs R : List Value) (hxs : xs = us l) (hR : R = us (wholeN l)) (w : World) :
 Calls Tryz.prog 150 #[.agg xs.toArray] w fun e w' => e = .returned (.agg R.toArray) ∧ Pu w w' := by
 have hi5 : (Tryz.prog.info? 206).map (·.size) = some 5 := by kernel_rfl
 have hcs := carry_small l hl
 have hwi := wholeN_if l
 obtain ⟨m, hm⟩ : ∃ m, m = carryN l := ⟨_, rfl⟩
 rw [← hm] at hcs hwi
 have hm5 : m.length = 5 := hcs.1
 obtain ⟨mv, hmv⟩ : ∃ z, z = us m := ⟨_, rfl⟩
 have hmv5 : mv.length = 5 := by rw [hmv, us_length, hm5]
 have hmv1 : mv.all (·.oneCell') = true := by rw [hmv]; exact us_one _
 have htkm : ((mv.drop 0).take 5) = mv := by rw [List.drop_zero, List.take_of_length_le (by omega)]
 have hxl : xs.length = 5 := by rw [hxs, us_length]; exact hl.1
 have htkx : ((xs.drop 0).take 5) = xs := by rw [List.drop_zero, List.take_of_length_le (by omega)]
 have hC := fun w => carryF l hl xs mv hxs (by rw [hmv, hm]) w
 have hcr := fun i => cr_le m 5 67108863 5 (by decide) (by decide) hcs i
 have HC := Lib.hid hC
 have HR := Lib.hid hR
 have HWI := Lib.hid hwi
 have HMV := Lib.hid hmv
 have HCR := Lib.hid hcr
 clear hC hR hwi hmv hm hxs hl hcs hcr
 go_enter Tryz.func150, Tryz.ntmps150
 go_wp2_with (first
  | (refine wpList_box rfl 206 (.tmp 0) rfl xs (by rfl) ?_; intro w0 hrx hp0 hz0)
  | (refine wpList_load_part rfl 206 (.tmp 1) rfl w.heap.size 0 5 (by rfl) (hrx.alloc _) Tryz.underlying206 rfl hi5 (by omega) ?_; rw [htkx])
  | (go_at_call 165; refine (HC.out _).mono ?_; rintro e w1 ⟨rfl, hp1⟩
     have hrx1 := (hrx.alloc _).pu hp1
     have hres1 := (Row.newAt w0 (w.heap.size + 1) _ _ (xs := us [0, 0, 0, 0, 0]) hz0 rfl).pu hp1
     have hbel1 : Below w.heap.size w w1 := Pu.trans (Pu.alloc hp0 _) hp1)
  | (refine wpList_store_part rfl 206 (.tmp 1) (.tmp 7) rfl w.heap.size 0 mv (by rfl) (by rfl) hrx1 (by rw [hmv5]; exact hi5) (by rw [hmv5]; omega) hmv1 ?_; intro w2 hrx2 hch2
     rw [splice_all (by rw [hmv5]; omega)] at hrx2
     have hres2 := hch2.row hres1 (by omega)
     have hbel2 : Below w.heap.size w w2 := hch2.below hbel1 (by omega)
     have hgz2 : w.heap.size + 2 ≤ w2.heap.size := by have h5 := hp1.size; have h6 := hch2.size; simp at h5; omega)
  | (refine wpList_load_part rfl 206 (.tmp 1) rfl w.heap.size 0 5 (by rfl) hrx2 Tryz.underlying206 rfl hi5 (by omega) ?_; rw [htkm])
  | (refine wpList_store_part rfl 206 (.tmp 3) (.tmp 8) rfl w2.heap.size 0 mv (by rfl) (by rfl) (Row.newAt _ _ _ _ rfl rfl) (by rw [hmv5]; exact hi5) (by rw [hmv5]; decide) hmv1 ?_; intro w3 hry3 hch3
     rw [splice_all (by rw [hmv5]; rfl)] at hry3
     have hrx3 := hch3.row (hrx2.alloc _) (by omega)
     have hres3 := hch3.row (hres2.alloc _) (by omega)
     have hbel3 : Below w.heap.size w w3 := hch3.below (hbel2.alloc (by omega) _) (by omega)))
 rw [HMV.out] at hry3
 clear hrx hp0 hrx1 hres1 hbel1 hrx2 hch2 hres2 hbel2 hch3 hp1
 obtain ⟨Y, hY⟩ : ∃ Y, Y = w2.heap.size := ⟨_, rfl⟩
 rw [← hY] at hry3 hgz2 ⊢
 go_loopw [4, 9] (fun c i wr => ∃ k : Nat, k ≤ 5 ∧ i = .int .i64 (k : Int) ∧ c = .int .u64 ((cr m 5 k).2 : Nat) ∧ Row wr Y 206 (us (cr m 5 k).1) ∧ Row wr w.heap.size 206 mv ∧ Row wr (w.heap.size + 1) 206 (us [0, 0, 0, 0, 0]) ∧ Below w.heap.size w wr) (fun _ i _ => 5 - (intOf i).toNat)
 case atStart => exact ⟨0, by omega, rfl, rfl, hry3, hrx3, hres3, hbel3⟩
 case round =>
  clear hry3 hrx3 hres3 hbel3 hY
  obtain ⟨k, hk, rfl, rfl, hy, hrx, hres, hbel⟩ := hrel
  obtain ⟨hc1, hc2, hc3⟩ := HCR.out k hk
  have hcl := cr_length m 5 k
  by_cases hkt : k < 5
  · have hsu := cr_succ m 5 k
    have hck := hc2 k (by omega)
    obtain ⟨y, hyy⟩ : ∃ y, y = (cr m 5 k).1 := ⟨_, rfl⟩
    obtain ⟨c, hc⟩ : ∃ y, y = (cr m 5 k).2 := ⟨_, rfl⟩
    obtain ⟨a, ha⟩ : ∃ a, a = (cr m 5 k).1.getD k 0 := ⟨_, rfl⟩
    obtain ⟨v, hv⟩ : ∃ v, v = a + c := ⟨_, rfl⟩
    obtain ⟨q, hq⟩ : ∃ q, q = v / 67108864 := ⟨_, rfl⟩
    obtain ⟨r, hr⟩ : ∃ r, r = v % 67108864 := ⟨_, rfl⟩
    rw [← ha] at hck hsu
    rw [← hyy] at hsu hcl hy ha
    rw [← hc] at hsu hc3
    rw [← hc]
    rw [← hv, ← hq, ← hr] at hsu
    have hvl : v < 18446744073709551616 := by omega
    have hcell := Row.limb hy k (by omega)
    rw [← ha] at hcell
    have hfz := hy.frozen k (by rw [us_length]; omega)
    have e1 : (a : Int) + c = v := by omega
    have e2 : IntKind.u64.wrap (v : Int) = v := by rw [IntKind.wrap_u64]; omega
    have e3 : (v : Int) / 67108864 = q := by omega
    have e4 : Go.bits .and .u64 (v : Int) 67108863 = (r : Int) := by rw [and26 v hvl, hr]
    have hk0 : (0 : Int) ≤ k := by omega
    have hk5 : (k : Int) < 5 := by omega
    have HSU := Lib.hid hsu
    have HY := Lib.hid hyy
    clear hsu hyy hc ha hv hq hr hc1 hc2
    go_wp2_with fail
    go_roundw
    case rel =>
     refine ⟨k + 1, by omega, by go_num, by rw [HSU.out], ?_, ?_, ?_, ?_⟩
     · rw [HSU.out]
       have h1 := (hy.set k (.int .u64 (v : Int))).set k (.int .u64 (r : Int))
       rw [List.set_set, us_set] at h1
       exact h1
     · exact (hrx.setOther _ _ (by simp; omega)).setOther _ _ (by simp; omega)
     · exact (hres.setOther _ _ (by simp; omega)).setOther _ _ (by simp; omega)
     · exact (hbel.setCell (by simp; omega) _).setCell (by simp; omega) _
    case measure => simp [intOf]; omega
  · obtain rfl : k = 5 := by omega
    obtain ⟨y, hyy⟩ : ∃ y, y = (cr m 5 5).1 := ⟨_, rfl⟩
    obtain ⟨c, hc⟩ : ∃ y, y = (cr m 5 5).2 := ⟨_, rfl⟩
    have hwi := HWI.out
    rw [← hyy, ← hc] at hwi
    rw [← hyy] at hcl hy
    rw [← hc] at hc3
    rw [← hc]
    have hy5 : y.length = 5 := by omega
    obtain ⟨yv, hyv⟩ : ∃ z, z = us y := ⟨_, rfl⟩
    have hyv5 : yv.length = 5 := by rw [hyv, us_length, hy5]
    have hyv1 : yv.all (·.oneCell') = true := by rw [hyv]; exact us_one _
    have htky : ((yv.drop 0).take 5) = yv := by rw [List.drop_zero, List.take_of_length_le (by omega)]
    rw [← hyv] at hy
    by_cases hc0 : 0 < c
    · rw [if_pos hc0] at hwi
      have hRz : R = yv := by rw [HR.out, hwi, hyv]
      have hc0' : (0 : Int) < c := by omega
      have HRZ := Lib.hid hRz
      clear hRz hwi hyv hyy hc hc1 hc2
      go_wp2_with (first
       | (refine wpList_load_part rfl 206 (.tmp 3) rfl Y 0 5 (by rfl) hy Tryz.underlying206 rfl hi5 (by omega) ?_; rw [htky])
       | (refine wpList_store_part rfl 206 (.tmp 2) (.tmp 30) rfl (w.heap.size + 1) 0 yv (by rfl) (by rfl) hres (by rw [hyv5]; exact hi5) (by rw [hyv5]; decide) hyv1 ?_; intro wl hr1 hch))
      rw [splice_all (by rw [hyv5]; rfl)] at hr1
      have hrl := hr1.load (P := Tryz.prog) 206 0 5 Tryz.underlying206 rfl hi5 (by omega)
      rw [htky] at hrl
      (try simp only [Exit.inBlock, Exit.then])
      refine bodyPost_ret (results_cell_eq rfl _ _ rfl hrl) rfl ?_
      exact ⟨by rw [HRZ.out], hch.below hbel (by omega)⟩
    · rw [if_neg hc0] at hwi
      have hRz : R = mv := by rw [HR.out, hwi, HMV.out]
      have hc0' : decide ((0 : Int) < c) = false := by simp; omega
      obtain rfl : c = 0 := by omega
      have HRZ := Lib.hid hRz
      clear hRz hwi hyv hyy hc hc1 hc2
      go_wp2_with (first
       | (refine wpList_load_part rfl 206 (.tmp 1) rfl w.heap.size 0 5 (by rfl) hrx Tryz.underlying206 rfl hi5 (by omega) ?_; rw [htkm])
       | (refine wpList_store_part rfl 206 (.tmp 2) (.tmp 31) rfl (w.heap.size + 1) 0 mv (by rfl) (by rfl) hres (by rw [hmv5]; exact hi5) (by rw [hmv5]; decide) hmv1 ?_; intro wl hr1 hch))
      rw [splice_all (by rw [hmv5]; rfl)] at hr1
      have hrl := hr1.load (P := Tryz.prog) 206 0 5 Tryz.underlying206 rfl hi5 (by omega)
      rw [htkm] at hrl
      (try simp only [Exit.inBlock, Exit.then])
      refine bodyPost_ret (results_cell_eq rfl _ _ rfl hrl) rfl ?_
      exact ⟨by rw [HRZ.out], hch.below hbel (by omega)⟩
end Go.Proofs.YtoakccknimoogaaGreat
set_option linter.unusedSimpArgs false
set_option linter.unusedVariables false
namespace Go.Proofs.YtoakccknimoogaaGreat
open Go.RowKit Go.Esc
set_option maxRecDepth 100000 in
set_option maxHeartbeats 3200000 in
theorem clampF (key : Bs) (h : key.length = 32) (w : World) :
 Calls Tryz.prog 146 #[S key] w fun e w' => e = .returned (.tuple #[S (clampL key), .bool true]) ∧ Pu w w' := by
 have hz := clampTo_zero key (by omega)
 obtain ⟨kk, hkk⟩ : ∃ l, l = key.take 16 := ⟨_, rfl⟩
 have hkl : kk.length = 16 := by rw [hkk]; simp; omega
 have HZ := Lib.hid hz
 have HKK := Lib.hid hkk
 have hkk' : key.take 16 = kk := hkk.symm
 clear hz hkk
 go_enter Tryz.func146, Tryz.ntmps146
 go_wp2_with (refine wpList_bytes _ rfl (.tmp 10) 9 51 5 rfl kk (by first | rfl | simp [Act.eval]) Tryz.underlying9 Tryz.underlying51 Tryz.underlying5 ?_; intro w1 cap hrow hpu hcap)
 have hb0 : Below w.heap.size w w1 := hpu
 rw [HKK.out, ← HZ.out] at hrow
 clear hpu hcap
 go_loopw [14] (fun i wr => ∃ k : Nat, k ≤ 16 ∧ i = .int .i64 (k : Int) ∧ Row wr w.heap.size 5 (cells (clampTo key k)) ∧ Below w.heap.size w wr) (fun i _ => 16 - (intOf i).toNat)
 case atStart => exact ⟨0, by omega, rfl, hrow, hb0⟩
 case round =>
  clear hrow hb0
  obtain ⟨k, hk, rfl, hrow, hbel⟩ := hrel
  by_cases hlt : k < 16
  · rcases (by omega : k = 0 ∨ k = 1 ∨ k = 2 ∨ k = 3 ∨ k = 4 ∨ k = 5 ∨ k = 6 ∨ k = 7 ∨ k = 8 ∨ k = 9 ∨ k = 10 ∨ k = 11 ∨ k = 12 ∨ k = 13 ∨ k = 14 ∨ k = 15) with q0 | q1 | q2 | q3 | q4 | q5 | q6 | q7 | q8 | q9 | q10 | q11 | q12 | q13 | q14 | q15
    · skip
      have hsame := clampTo_same key k hlt (by subst q0; rfl)
      rw [hsame] at hrow
      subst q0
      go_wp2_with fail
      go_roundw
      case rel => exact ⟨0 + 1, by omega, by go_num, hrow, hbel⟩
      case measure => simp [intOf]
    · skip
      have hsame := clampTo_same key k hlt (by subst q1; rfl)
      rw [hsame] at hrow
      subst q1
      go_wp2_with fail
      go_roundw
      case rel => exact ⟨1 + 1, by omega, by go_num, hrow, hbel⟩
      case measure => simp [intOf]
    · skip
      have hsame := clampTo_same key k hlt (by subst q2; rfl)
      rw [hsame] at hrow
      subst q2
      go_wp2_with fail
      go_roundw
      case rel => exact ⟨2 + 1, by omega, by go_num, hrow, hbel⟩
      case measure => simp [intOf]
    · skip
      have hc1 := hrow.byte k (by rw [clampTo_length]; exact hlt)
      rw [clampTo_get key k hlt] at hc1
      have hf := hrow.frozen k (by rw [cells_length, clampTo_length]; omega)
      have hset := clampTo_set key k hlt
      have hcb : clampB k (key.getD k 0) = key.getD k 0 &&& 15 := by simp only [clampB]; simp [q3]
      rw [hcb] at hset
      obtain ⟨c, hc⟩ : ∃ c, c = key.getD k 0 := ⟨_, rfl⟩
      obtain ⟨v, hv⟩ : ∃ v, v = c &&& 15 := ⟨_, rfl⟩
      have hand : Go.bits .and .u8 (c.toNat : Int) 15 = (v.toNat : Int) := by rw [hv]; exact and8 c 15
      rw [← hc, ← hv] at hset
      rw [← hc] at hc1
      have HSET := Lib.hid hset
      clear hset hcb hc hv
      subst q3
      go_wp2_with fail
      go_roundw
      case rel =>
       have h1 := hrow.set 3 (.int .u8 (v.toNat : Int))
       rw [cells_set, HSET.out] at h1
       exact ⟨3 + 1, by omega, by go_num, h1, hbel.setCell (by simp) _⟩
      case measure => simp [intOf]
    · skip
      have hc1 := hrow.byte k (by rw [clampTo_length]; exact hlt)
      rw [clampTo_get key k hlt] at hc1
      have hf := hrow.frozen k (by rw [cells_length, clampTo_length]; omega)
      have hset := clampTo_set key k hlt
      have hcb : clampB k (key.getD k 0) = key.getD k 0 &&& 252 := by simp only [clampB]; simp [q4]
      rw [hcb] at hset
      obtain ⟨c, hc⟩ : ∃ c, c = key.getD k 0 := ⟨_, rfl⟩
      obtain ⟨v, hv⟩ : ∃ v, v = c &&& 252 := ⟨_, rfl⟩
      have hand : Go.bits .and .u8 (c.toNat : Int) 252 = (v.toNat : Int) := by rw [hv]; exact and8 c 252
      rw [← hc, ← hv] at hset
      rw [← hc] at hc1
      have HSET := Lib.hid hset
      clear hset hcb hc hv
      subst q4
      go_wp2_with fail
      go_roundw
      case rel =>
       have h1 := hrow.set 4 (.int .u8 (v.toNat : Int))
       rw [cells_set, HSET.out] at h1
       exact ⟨4 + 1, by omega, by go_num, h1, hbel.setCell (by simp) _⟩
      case measure => simp [intOf]
    · skip
      have hsame := clampTo_same key k hlt (by subst q5; rfl)
      rw [hsame] at hrow
      subst q5
      go_wp2_with fail
      go_roundw
      case rel => exact ⟨5 + 1, by omega, by go_num, hrow, hbel⟩
      case measure => simp [intOf]
    · skip
      have hsame := clampTo_same key k hlt (by subst q6; rfl)
      rw [hsame] at hrow
      subst q6
      go_wp2_with fail
      go_roundw
      case rel => exact ⟨6 + 1, by omega, by go_num, hrow, hbel⟩
      case measure => simp [intOf]
    · skip
      have hc1 := hrow.byte k (by rw [clampTo_length]; exact hlt)
      rw [clampTo_get key k hlt] at hc1
      have hf := hrow.frozen k (by rw [cells_length, clampTo_length]; omega)
      have hset := clampTo_set key k hlt
      have hcb : clampB k (key.getD k 0) = key.getD k 0 &&& 15 := by simp only [clampB]; simp [q7]
      rw [hcb] at hset
      obtain ⟨c, hc⟩ : ∃ c, c = key.getD k 0 := ⟨_, rfl⟩
      obtain ⟨v, hv⟩ : ∃ v, v = c &&& 15 := ⟨_, rfl⟩
      have hand : Go.bits .and .u8 (c.toNat : Int) 15 = (v.toNat : Int) := by rw [hv]; exact and8 c 15
      rw [← hc, ← hv] at hset
      rw [← hc] at hc1
      have HSET := Lib.hid hset
      clear hset hcb hc hv
      subst q7
      go_wp2_with fail
      go_roundw
      case rel =>
       have h1 := hrow.set 7 (.int .u8 (v.toNat : Int))
       rw [cells_set, HSET.out] at h1
       exact ⟨7 + 1, by omega, by go_num, h1, hbel.setCell (by simp) _⟩
      case measure => simp [intOf]
    · skip
      have hc1 := hrow.byte k (by rw [clampTo_length]; exact hlt)
      rw [clampTo_get key k hlt] at hc1
      have hf := hrow.frozen k (by rw [cells_length, clampTo_length]; omega)
      have hset := clampTo_set key k hlt
      have hcb : clampB k (key.getD k 0) = key.getD k 0 &&& 252 := by simp only [clampB]; simp [q8]
      rw [hcb] at hset
      obtain ⟨c, hc⟩ : ∃ c, c = key.getD k 0 := ⟨_, rfl⟩
      obtain ⟨v, hv⟩ : ∃ v, v = c &&& 252 := ⟨_, rfl⟩
      have hand : Go.bits .and .u8 (c.toNat : Int) 252 = (v.toNat : Int) := by rw [hv]; exact and8 c 252
      rw [← hc, ← hv] at hset
      rw [← hc] at hc1
      have HSET := Lib.hid hset
      clear hset hcb hc hv
      subst q8
      go_wp2_with fail
      go_roundw
      case rel =>
       have h1 := hrow.set 8 (.int .u8 (v.toNat : Int))
       rw [cells_set, HSET.out] at h1
       exact ⟨8 + 1, by omega, by go_num, h1, hbel.setCell (by simp) _⟩
      case measure => simp [intOf]
    · skip
      have hsame := clampTo_same key k hlt (by subst q9; rfl)
      rw [hsame] at hrow
      subst q9
      go_wp2_with fail
      go_roundw
      case rel => exact ⟨9 + 1, by omega, by go_num, hrow, hbel⟩
      case measure => simp [intOf]
    · skip
      have hsame := clampTo_same key k hlt (by subst q10; rfl)
      rw [hsame] at hrow
      subst q10
      go_wp2_with fail
      go_roundw
      case rel => exact ⟨10 + 1, by omega, by go_num, hrow, hbel⟩
      case measure => simp [intOf]
    · skip
      have hc1 := hrow.byte k (by rw [clampTo_length]; exact hlt)
      rw [clampTo_get key k hlt] at hc1
      have hf := hrow.frozen k (by rw [cells_length, clampTo_length]; omega)
      have hset := clampTo_set key k hlt
      have hcb : clampB k (key.getD k 0) = key.getD k 0 &&& 15 := by simp only [clampB]; simp [q11]
      rw [hcb] at hset
      obtain ⟨c, hc⟩ : ∃ c, c = key.getD k 0 := ⟨_, rfl⟩
      obtain ⟨v, hv⟩ : ∃ v, v = c &&& 15 := ⟨_, rfl⟩
      have hand : Go.bits .and .u8 (c.toNat : Int) 15 = (v.toNat : Int) := by rw [hv]; exact and8 c 15
      rw [← hc, ← hv] at hset
      rw [← hc] at hc1
      have HSET := Lib.hid hset
      clear hset hcb hc hv
      subst q11
      go_wp2_with fail
      go_roundw
      case rel =>
       have h1 := hrow.set 11 (.int .u8 (v.toNat : Int))
       rw [cells_set, HSET.out] at h1
       exact ⟨11 + 1, by omega, by go_num, h1, hbel.setCell (by simp) _⟩
      case measure => simp [intOf]
    · skip
      have hc1 := hrow.byte k (by rw [clampTo_length]; exact hlt)
      rw [clampTo_get key k hlt] at hc1
      have hf := hrow.frozen k (by rw [cells_length, clampTo_length]; omega)
      have hset := clampTo_set key k hlt
      have hcb : clampB k (key.getD k 0) = key.getD k 0 &&& 252 := by simp only [clampB]; simp [q12]
      rw [hcb] at hset
      obtain ⟨c, hc⟩ : ∃ c, c = key.getD k 0 := ⟨_, rfl⟩
      obtain ⟨v, hv⟩ : ∃ v, v = c &&& 252 := ⟨_, rfl⟩
      have hand : Go.bits .and .u8 (c.toNat : Int) 252 = (v.toNat : Int) := by rw [hv]; exact and8 c 252
      rw [← hc, ← hv] at hset
      rw [← hc] at hc1
      have HSET := Lib.hid hset
      clear hset hcb hc hv
      subst q12
      go_wp2_with fail
      go_roundw
      case rel =>
       have h1 := hrow.set 12 (.int .u8 (v.toNat : Int))
       rw [cells_set, HSET.out] at h1
       exact ⟨12 + 1, by omega, by go_num, h1, hbel.setCell (by simp) _⟩
      case measure => simp [intOf]
    · skip
      have hsame := clampTo_same key k hlt (by subst q13; rfl)
      rw [hsame] at hrow
      subst q13
      go_wp2_with fail
      go_roundw
      case rel => exact ⟨13 + 1, by omega, by go_num, hrow, hbel⟩
      case measure => simp [intOf]
    · skip
      have hsame := clampTo_same key k hlt (by subst q14; rfl)
      rw [hsame] at hrow
      subst q14
      go_wp2_with fail
      go_roundw
      case rel => exact ⟨14 + 1, by omega, by go_num, hrow, hbel⟩
      case measure => simp [intOf]
    · skip
      have hc1 := hrow.byte k (by rw [clampTo_length]; exact hlt)
      rw [clampTo_get key k hlt] at hc1
      have hf := hrow.frozen k (by rw [cells_length, clampTo_length]; omega)
      have hset := clampTo_set key k hlt
      have hcb : clampB k (key.getD k 0) = key.getD k 0 &&& 15 := by simp only [clampB]; simp [q15]
      rw [hcb] at hset
      obtain ⟨c, hc⟩ : ∃ c, c = key.getD k 0 := ⟨_, rfl⟩
      obtain ⟨v, hv⟩ : ∃ v, v = c &&& 15 := ⟨_, rfl⟩
      have hand : Go.bits .and .u8 (c.toNat : Int) 15 = (v.toNat : Int) := by rw [hv]; exact and8 c 15
      rw [← hc, ← hv] at hset
      rw [← hc] at hc1
      have HSET := Lib.hid hset
      clear hset hcb hc hv
      subst q15
      go_wp2_with fail
      go_roundw
      case rel =>
       have h1 := hrow.set 15 (.int .u8 (v.toNat : Int))
       rw [cells_set, HSET.out] at h1
       exact ⟨15 + 1, by omega, by go_num, h1, hbel.setCell (by simp) _⟩
      case measure => simp [intOf]
  · obtain rfl : k = 16 := by omega
    rw [clampTo_all] at hrow
    obtain ⟨z, hzz⟩ : ∃ z, z = clampL key := ⟨_, rfl⟩
    have hzl : z.length = 16 := by rw [hzz]; simp [clampL]
    rw [← hzz] at hrow
    have HZZ := Lib.hid hzz
    have hcv := fun cap => Row.conv (P := Tryz.prog) (cap := cap) (n := 16) (l := z) 51 9 hrow hzl.symm Tryz.underlying51 Tryz.underlying5 Tryz.underlying9
    clear hzz
    go_wp2_with fail
    go_ret2
    exact ⟨by rw [HZZ.out]; rfl, hbel⟩
end Go.Proofs.YtoakccknimoogaaGreat
namespace Go.Esc
open Go Go.RowKit
/-- A pointer to a new row. -/
def IsPtr (base : Nat) (e : TypeId) (xs : List Value) : Value → World → Prop := fun v w => ∃ g, v = .pointer (some ⟨g, 0, none⟩) ∧ Row w g e xs ∧ base ≤ g
instance (base : Nat) (e : TypeId) (xs : List Value) : Stable (IsPtr base e xs) := ⟨fun _ _ _ h hp => by obtain ⟨g, hv, hr, hb⟩ := h; exact ⟨g, hv, hr.pu hp, hb⟩⟩
theorem run_firstCells_str {P : Program} (w : World) (size n : Nat) (l : Bs) : (Builtin.firstCells size n (S l)).run P w = .ok (cells (l.take n)).toArray w := by
 have : (bs (l.take n)).data.map (fun b => Value.int .u8 b.toNat) = (cells (l.take n)).toArray := by
  simp [bs, cells]; rfl
 simp [Builtin.firstCells, this]
/-- 'copy' of a text over the beginning of a row. -/
theorem wpList_copy_str {P : Program} {w : World} {ops : Array Oper} {rest : List Oper} {o : Oper} {a : Act} {Q : Exit → Act → World → Prop} (hgd : o.guard = none) (d s : Operand) (t t' : TypeId)
 (ho : o.op = .call { callee := .builtin .copy, args := #[d, s], argTypes := #[t, t'] }) (e : TypeId) (ht : P.underlying t = some (.slice e)) (hsz : (P.info? e).map (·.size) = some 1)
 (g n cap : Nat) (l : Bs) (hd : a.eval d = .slice (some ⟨g, 0, none⟩) n cap) (hs : a.eval s = S l) {xs : List Value} (hr : Row w g e xs) (hn : n ≤ xs.length)
 (h : ∀ w', Row w' g e (Esc.splice xs 0 (cells (l.take n))) → Chg g w w' → wpList P ops Q rest (a.put o.dst (goInt (Nat.min l.length n))) w') : wpList P ops Q (o :: rest) a w := by
 have hlen : (cells (l.take (Nat.min l.length n))).length ≤ n := by simp only [cells_length, List.length_take]; exact Nat.le_trans (Nat.min_le_left _ _) (Nat.min_le_right _ _)
 have htk : l.take (Nat.min l.length n) = l.take n := by
  rcases Nat.le_total l.length n with h1 | h1
  · rw [show Nat.min l.length n = l.length from Nat.min_eq_left h1, List.take_length, List.take_of_length_le h1]
  · rw [show Nat.min l.length n = n from Nat.min_eq_right h1]
 have hst := run_storeCells_cells (P := P) g 0 (cells (l.take (Nat.min l.length n))) 0 w (fun j hj => by simp only [Nat.zero_add]; rw [hr.cell j (by omega)]; rfl) (fun j hj => by simp only [Nat.zero_add]; exact hr.frozen j (by omega))
  (fun v hv => by simp only [cells, List.mem_map] at hv; obtain ⟨c, _, rfl⟩ := hv; rfl)
 have hcr := Row.setCells (cells (l.take (Nat.min l.length n))) 0 w xs hr
 have hch := Chg.setCells g (cells (l.take (Nat.min l.length n))) 0 w
 rw [htk] at hcr hst hch
 have hrun : (Builtin.copy_ #[t, t'] o.type #[.slice (some ⟨g, 0, none⟩) n cap, S l]).run P w = .ok (goInt (Nat.min l.length n)) (w.setCells g 0 (cells (l.take n))) := by
  cases hq : P.info? e with
  | none => simp [hq] at hsz
  | some i =>
    have hs : i.size = 1 := by simpa [hq] using hsz
    have hfc := run_firstCells_str (P := P) w 1 (Nat.min l.length n) l
    rw [htk] at hfc
    simp [Builtin.copy_, run_underlying ht, sizeOf, typeInfo, hq, hs, Builtin.lenOf, Sem.run_bind, hfc, hst]
 exact Lib.wpList_copy_run w hgd d s t t' ho _ _ hd hs hrun (h _ hcr hch)
/-- a last block, filled up -/
def padBl (p : Bs) : Bs := p ++ [1] ++ List.replicate (16 - p.length) 0
theorem padBl_length (p : Bs) (h : p.length ≤ 16) : (padBl p).length = 17 := by simp [padBl]; omega
theorem padBl_leN (p : Bs) : leN (padBl p) = leN (p ++ [1]) := leN_pad _ _
theorem padBl_top (p : Bs) (h : p.length ≤ 16) : ((padBl p)[16]'(by rw [padBl_length p h]; omega)).toNat ≤ 1 := by
 by_cases h16 : p.length = 16
 · have : (padBl p)[16]'(by rw [padBl_length p h]; omega) = 1 := by
    simp only [padBl]
    rw [List.getElem_append_left (by simp; omega), List.getElem_append_right (by omega)]
    simp
   rw [this]; decide
 · have : (padBl p)[16]'(by rw [padBl_length p h]; omega) = 0 := by
    simp only [padBl]
    rw [List.getElem_append_right (by simp; omega)]
    simp
   rw [this]; decide
theorem leN_17 (l : Bs) (h : l.length = 17) : leN l = leN (l.take 8) + 2 ^ 64 * leN ((l.take 16).drop 8) + 2 ^ 128 * (l[16]'(by omega)).toNat := by
 have h1 := leN_take_drop l 16 (by omega)
 have h2 := leN_take_drop (l.take 16) 8 (by simp; omega)
 rw [List.take_take, show min 8 16 = 8 from rfl] at h2
 have h3 : l.drop 16 = [l[16]'(by omega)] := by
  rw [List.drop_eq_getElem_cons (by omega), List.drop_of_length_le (by omega)]
 rw [h3] at h1
 have e1 : (256 : Nat) ^ 16 = 2 ^ 128 := by decide
 have e2 : (256 : Nat) ^ 8 = 2 ^ 64 := by decide
 rw [e1] at h1
 rw [e2] at h2
 simp only [leN] at h1
 omega
theorem splice_pad (p : Bs) (h : p.length ≤ 16) : (Esc.splice (cells (List.replicate 17 0)) 0 (cells (p.take 17))).set p.length (.int .u8 1) = cells (padBl p) := by
 rw [List.take_of_length_le (by omega), splice_eq _ _ _ (by simp [cells_length]; omega)]
 obtain ⟨j, hj⟩ : ∃ j, 16 - p.length = j := ⟨_, rfl⟩
 have e1 : (cells (List.replicate 17 0)).drop (0 + (cells p).length) = cells (0 :: List.replicate j 0) := by
  simp only [cells, List.length_map, Nat.zero_add, ← List.map_drop, List.drop_replicate]
  rw [show 17 - p.length = j + 1 by omega, List.replicate_succ]
 rw [e1, List.take_zero, List.nil_append]
 have e2 : cells p ++ cells (0 :: List.replicate j 0) = cells (p ++ 0 :: List.replicate j 0) := by simp [cells]
 rw [e2, show Value.int .u8 1 = .int .u8 (((1 : UInt8).toNat : Nat) : Int) from rfl, cells_set]
 congr 1
 rw [List.set_append_right _ _ (by omega), Nat.sub_self, List.set_cons_zero, padBl, hj]
 simp
end Go.Esc
namespace Go.Proofs.YtoakccknimoogaaGreat
open Go.RowKit Go.Esc
theorem add64U (x y c : Nat) (hx : x < 18446744073709551616) (hy : y < 18446744073709551616) (hc : c ≤ 1) (w : World) :
 (callFunc 151 #[.int .u64 (x : Int), .int .u64 (y : Int), .int .u64 (c : Int)]).run Tryz.prog w =
   .ok (.value (.tuple #[.int .u64 (((x + y + c) % 18446744073709551616 : Nat) : Int), .int .u64 (((x + y + c) / 18446744073709551616 : Nat) : Int)])) w := by
 rw [run_callFunc_extern Tryz.func151 (by kernel_rfl) (by kernel_rfl) (by kernel_rfl) (e := add64Entry) (by kernel_rfl), run_add64 x y c (by omega) (by omega) (by omega) (by omega)]
 simp only [Result.andThen]
 congr 5 <;> omega
end Go.Proofs.YtoakccknimoogaaGreat
