/- The document's code of bytes under a key. -/
import Derived.Test.YtoakccknimoogaaGreatU2
set_option linter.unusedSimpArgs false
set_option linter.unusedVariables false
set_option linter.unusedSimpArgs false
set_option linter.unusedVariables false
namespace Go.Esc
open Go Go.RowKit
theorem leN_take_succ (l : Bs) (k : Nat) (h : k < l.length) : leN (l.take (k+1)) = leN (l.take k) + 256 ^ k * l[k].toNat := by
 rw [take_snoc l k h, leN_append, List.length_take, Nat.min_eq_left (Nat.le_of_lt h)]
 simp [leN]
theorem leV_take_succ' (l : List Nat) (k : Nat) (h : k < l.length) : leV (l.take (k+1)) = leV (l.take k) + 256 ^ k * l.getD k 0 := leV_take_succ l k h
theorem mul_step (A a r R c X Y I J : Nat) (hI : R = r + J * c) : A * X + I * (a * R) = A * X + I * (a * r) + I * J * (a * c) := by
 subst hI; rw [Nat.mul_add, Nat.mul_add, Nat.add_assoc]; congr 2; simp only [Nat.mul_assoc, Nat.mul_left_comm]
theorem top_digits2 {x : List Nat} (hs : ∀ d ∈ x, d < 256) (h : 18 ≤ x.length) (hv : leV x < 2 ^ 131) : x.getD 17 0 = 0 ∧ (4 ≤ x.getD 16 0 ↔ 2 ^ 130 ≤ leV x) := by
 have h1 := top_digits hs h hv
 have h2 := leV_take_drop x 17 (by omega)
 have h3 : leV (x.drop 17) = x.getD 17 0 + 256 * leV (x.drop 18) := by
  rw [List.drop_eq_getElem_cons (by omega), leV]
  simp [List.getD_eq_getElem?_getD, List.getElem?_eq_getElem (show 17 < x.length by omega)]
 have e : (256 : Nat) ^ 17 = 2 ^ 136 := by decide
 rw [e] at h2
 have h0 : x.getD 17 0 = 0 := by omega
 rw [h0] at h1
 refine ⟨h0, ?_⟩
 omega
theorem lgetD_set_ne (z : List Nat) (k j v : Nat) (h : k ≠ j) : (z.set k v).getD j 0 = z.getD j 0 := by
 rw [List.getD_eq_getElem?_getD, List.getElem?_set_ne h, List.getD_eq_getElem?_getD]
theorem getD_small {x : List Nat} (h : ∀ d ∈ x, d < 256) (k : Nat) : x.getD k 0 < 256 := by
 by_cases hk : k < x.length
 · simp only [List.getD_eq_getElem?_getD, List.getElem?_eq_getElem hk]; exact h _ (List.getElem_mem hk)
 · rw [getD_none x k (by omega)]; decide
def outTo (l : List Nat) (k : Nat) : Bs := (l.take k).map UInt8.ofNat ++ List.replicate (16 - k) 0
theorem outTo_length (l : List Nat) (k : Nat) (h : k ≤ 16) (hl : 16 ≤ l.length) : (outTo l k).length = 16 := by simp [outTo]; omega
theorem outTo_set (l : List Nat) (k : Nat) (h : k < 16) (hl : 16 ≤ l.length) : (outTo l k).set k (UInt8.ofNat (l.getD k 0)) = outTo l (k+1) := by
 obtain ⟨j, hj⟩ : ∃ j, 16 - k = j + 1 := ⟨15 - k, by omega⟩
 have hg : l.getD k 0 = l[k]'(by omega) := by rw [List.getD_eq_getElem?_getD, List.getElem?_eq_getElem (by omega)]; rfl
 rw [outTo, outTo, hj, show 16 - (k + 1) = j by omega, List.replicate_succ, take_snoc l k (by omega), List.map_append, List.set_append_right _ _ (by simp; omega)]
 have h0 : k - ((l.take k).map UInt8.ofNat).length = 0 := by simp; omega
 rw [h0, List.set_cons_zero, hg, List.append_assoc]; rfl
theorem outTo_all (l : List Nat) : outTo l 16 = (l.take 16).map UInt8.ofNat := by simp [outTo]
end Go.Esc
namespace Go.Proofs.YtoakccknimoogaaGreat
open Go.RowKit Go.Esc
set_option maxRecDepth 100000 in
set_option maxHeartbeats 3200000 in
theorem refClamp (key : Bs) (h : key.length = 32) (w : World) :
 Calls Tryz.prog 124 #[S key] w fun e w' => e = .returned (S (clampL key)) ∧ Pu w w' := by
 have hz := clampTo_zero key (by omega)
 obtain ⟨kk, hkk⟩ : ∃ l, l = key.take 16 := ⟨_, rfl⟩
 have hkl : kk.length = 16 := by rw [hkk]; simp; omega
 have HZ := Lib.hid hz
 have HKK := Lib.hid hkk
 have hkk' : key.take 16 = kk := hkk.symm
 clear hz hkk
 go_enter Tryz.func124, Tryz.ntmps124
 go_wp2_with (refine wpList_bytes _ rfl (.tmp 6) 9 51 5 rfl kk (by first | rfl | simp [Act.eval]) Tryz.underlying9 Tryz.underlying51 Tryz.underlying5 ?_; intro w1 cap hrow hpu hcap)
 have hb0 : Below w.heap.size w w1 := hpu
 rw [HKK.out, ← HZ.out] at hrow
 clear hpu hcap
 go_loopw [4] (fun i wr => ∃ k : Nat, k ≤ 16 ∧ i = .int .i64 (k : Int) ∧ Row wr w.heap.size 5 (cells (clampTo key k)) ∧ Below w.heap.size w wr) (fun i _ => 16 - (intOf i).toNat)
 case atStart => exact ⟨0, by omega, rfl, hrow, hb0⟩
 case round =>
  clear hrow hb0
  obtain ⟨k, hk, rfl, hrow, hbel⟩ := hrel
  by_cases hlt : k < 16
  · rcases (by omega : k = 0 ∨ k = 1 ∨ k = 2 ∨ k = 3 ∨ k = 4 ∨ k = 5 ∨ k = 6 ∨ k = 7 ∨ k = 8 ∨ k = 9 ∨ k = 10 ∨ k = 11 ∨ k = 12 ∨ k = 13 ∨ k = 14 ∨ k = 15) with q0 | q1 | q2 | q3 | q4 | q5 | q6 | q7 | q8 | q9 | q10 | q11 | q12 | q13 | q14 | q15
    · skip
      have hsame := clampTo_same key k hlt (by subst q0; rfl)
      rw [hsame] at hrow
      subst q0
      go_wp2_with fail
      go_roundw
      case rel => exact ⟨0 + 1, by omega, by go_num, hrow, hbel⟩
      case measure => simp [intOf]
    · skip
      have hsame := clampTo_same key k hlt (by subst q1; rfl)
      rw [hsame] at hrow
      subst q1
      go_wp2_with fail
      go_roundw
      case rel => exact ⟨1 + 1, by omega, by go_num, hrow, hbel⟩
      case measure => simp [intOf]
    · skip
      have hsame := clampTo_same key k hlt (by subst q2; rfl)
      rw [hsame] at hrow
      subst q2
      go_wp2_with fail
      go_roundw
      case rel => exact ⟨2 + 1, by omega, by go_num, hrow, hbel⟩
      case measure => simp [intOf]
    · skip
      have hc1 := hrow.byte k (by rw [clampTo_length]; exact hlt)
      rw [clampTo_get key k hlt] at hc1
      have hf := hrow.frozen k (by rw [cells_length, clampTo_length]; omega)
      have hset := clampTo_set key k hlt
      have hcb : clampB k (key.getD k 0) = key.getD k 0 &&& 15 := by simp only [clampB]; simp [q3]
      rw [hcb] at hset
      obtain ⟨c, hc⟩ : ∃ c, c = key.getD k 0 := ⟨_, rfl⟩
      obtain ⟨v, hv⟩ : ∃ v, v = c &&& 15 := ⟨_, rfl⟩
      have hand : Go.bits .and .u8 (c.toNat : Int) 15 = (v.toNat : Int) := by rw [hv]; exact and8 c 15
      rw [← hc, ← hv] at hset
      rw [← hc] at hc1
      have HSET := Lib.hid hset
      clear hset hcb hc hv
      subst q3
      go_wp2_with fail
      go_roundw
      case rel =>
       have h1 := hrow.set 3 (.int .u8 (v.toNat : Int))
       rw [cells_set, HSET.out] at h1
       exact ⟨3 + 1, by omega, by go_num, h1, hbel.setCell (by simp) _⟩
      case measure => simp [intOf]
    · skip
      have hc1 := hrow.byte k (by rw [clampTo_length]; exact hlt)
      rw [clampTo_get key k hlt] at hc1
      have hf := hrow.frozen k (by rw [cells_length, clampTo_length]; omega)
      have hset := clampTo_set key k hlt
      have hcb : clampB k (key.getD k 0) = key.getD k 0 &&& 252 := by simp only [clampB]; simp [q4]
      rw [hcb] at hset
      obtain ⟨c, hc⟩ : ∃ c, c = key.getD k 0 := ⟨_, rfl⟩
      obtain ⟨v, hv⟩ : ∃ v, v = c &&& 252 := ⟨_, rfl⟩
      have hand : Go.bits .and .u8 (c.toNat : Int) 252 = (v.toNat : Int) := by rw [hv]; exact and8 c 252
      rw [← hc, ← hv] at hset
      rw [← hc] at hc1
      have HSET := Lib.hid hset
      clear hset hcb hc hv
      subst q4
      go_wp2_with fail
      go_roundw
      case rel =>
       have h1 := hrow.set 4 (.int .u8 (v.toNat : Int))
       rw [cells_set, HSET.out] at h1
       exact ⟨4 + 1, by omega, by go_num, h1, hbel.setCell (by simp) _⟩
      case measure => simp [intOf]
    · skip
      have hsame := clampTo_same key k hlt (by subst q5; rfl)
      rw [hsame] at hrow
      subst q5
      go_wp2_with fail
      go_roundw
      case rel => exact ⟨5 + 1, by omega, by go_num, hrow, hbel⟩
      case measure => simp [intOf]
    · skip
      have hsame := clampTo_same key k hlt (by subst q6; rfl)
      rw [hsame] at hrow
      subst q6
      go_wp2_with fail
      go_roundw
      case rel => exact ⟨6 + 1, by omega, by go_num, hrow, hbel⟩
      case measure => simp [intOf]
    · skip
      have hc1 := hrow.byte k (by rw [clampTo_length]; exact hlt)
      rw [clampTo_get key k hlt] at hc1
      have hf := hrow.frozen k (by rw [cells_length, clampTo_length]; omega)
      have hset := clampTo_set key k hlt
      have hcb : clampB k (key.getD k 0) = key.getD k 0 &&& 15 := by simp only [clampB]; simp [q7]
      rw [hcb] at hset
      obtain ⟨c, hc⟩ : ∃ c, c = key.getD k 0 := ⟨_, rfl⟩
      obtain ⟨v, hv⟩ : ∃ v, v = c &&& 15 := ⟨_, rfl⟩
      have hand : Go.bits .and .u8 (c.toNat : Int) 15 = (v.toNat : Int) := by rw [hv]; exact and8 c 15
      rw [← hc, ← hv] at hset
      rw [← hc] at hc1
      have HSET := Lib.hid hset
      clear hset hcb hc hv
      subst q7
      go_wp2_with fail
      go_roundw
      case rel =>
       have h1 := hrow.set 7 (.int .u8 (v.toNat : Int))
       rw [cells_set, HSET.out] at h1
       exact ⟨7 + 1, by omega, by go_num, h1, hbel.setCell (by simp) _⟩
      case measure => simp [intOf]
    · skip
      have hc1 := hrow.byte k (by rw [clampTo_length]; exact hlt)
      rw [clampTo_get key k hlt] at hc1
      have hf := hrow.frozen k (by rw [cells_length, clampTo_length]; omega)
      have hset := clampTo_set key k hlt
      have hcb : clampB k (key.getD k 0) = key.getD k 0 &&& 252 := by simp only [clampB]; simp [q8]
      rw [hcb] at hset
      obtain ⟨c, hc⟩ : ∃ c, c = key.getD k 0 := ⟨_, rfl⟩
      obtain ⟨v, hv⟩ : ∃ v, v = c &&& 252 := ⟨_, rfl⟩
      have hand : Go.bits .and .u8 (c.toNat : Int) 252 = (v.toNat : Int) := by rw [hv]; exact and8 c 252
      rw [← hc, ← hv] at hset
      rw [← hc] at hc1
      have HSET := Lib.hid hset
      clear hset hcb hc hv
      subst q8
      go_wp2_with fail
      go_roundw
      case rel =>
       have h1 := hrow.set 8 (.int .u8 (v.toNat : Int))
       rw [cells_set, HSET.out] at h1
       exact ⟨8 + 1, by omega, by go_num, h1, hbel.setCell (by simp) _⟩
      case measure => simp [intOf]
    · skip
      have hsame := clampTo_same key k hlt (by subst q9; rfl)
      rw [hsame] at hrow
      subst q9
      go_wp2_with fail
      go_roundw
      case rel => exact ⟨9 + 1, by omega, by go_num, hrow, hbel⟩
      case measure => simp [intOf]
    · skip
      have hsame := clampTo_same key k hlt (by subst q10; rfl)
      rw [hsame] at hrow
      subst q10
      go_wp2_with fail
      go_roundw
      case rel => exact ⟨10 + 1, by omega, by go_num, hrow, hbel⟩
      case measure => simp [intOf]
    · skip
      have hc1 := hrow.byte k (by rw [clampTo_length]; exact hlt)
      rw [clampTo_get key k hlt] at hc1
      have hf := hrow.frozen k (by rw [cells_length, clampTo_length]; omega)
      have hset := clampTo_set key k hlt
      have hcb : clampB k (key.getD k 0) = key.getD k 0 &&& 15 := by simp only [clampB]; simp [q11]
      rw [hcb] at hset
      obtain ⟨c, hc⟩ : ∃ c, c = key.getD k 0 := ⟨_, rfl⟩
      obtain ⟨v, hv⟩ : ∃ v, v = c &&& 15 := ⟨_, rfl⟩
      have hand : Go.bits .and .u8 (c.toNat : Int) 15 = (v.toNat : Int) := by rw [hv]; exact and8 c 15
      rw [← hc, ← hv] at hset
      rw [← hc] at hc1
      have HSET := Lib.hid hset
      clear hset hcb hc hv
      subst q11
      go_wp2_with fail
      go_roundw
      case rel =>
       have h1 := hrow.set 11 (.int .u8 (v.toNat : Int))
       rw [cells_set, HSET.out] at h1
       exact ⟨11 + 1, by omega, by go_num, h1, hbel.setCell (by simp) _⟩
      case measure => simp [intOf]
    · skip
      have hc1 := hrow.byte k (by rw [clampTo_length]; exact hlt)
      rw [clampTo_get key k hlt] at hc1
      have hf := hrow.frozen k (by rw [cells_length, clampTo_length]; omega)
      have hset := clampTo_set key k hlt
      have hcb : clampB k (key.getD k 0) = key.getD k 0 &&& 252 := by simp only [clampB]; simp [q12]
      rw [hcb] at hset
      obtain ⟨c, hc⟩ : ∃ c, c = key.getD k 0 := ⟨_, rfl⟩
      obtain ⟨v, hv⟩ : ∃ v, v = c &&& 252 := ⟨_, rfl⟩
      have hand : Go.bits .and .u8 (c.toNat : Int) 252 = (v.toNat : Int) := by rw [hv]; exact and8 c 252
      rw [← hc, ← hv] at hset
      rw [← hc] at hc1
      have HSET := Lib.hid hset
      clear hset hcb hc hv
      subst q12
      go_wp2_with fail
      go_roundw
      case rel =>
       have h1 := hrow.set 12 (.int .u8 (v.toNat : Int))
       rw [cells_set, HSET.out] at h1
       exact ⟨12 + 1, by omega, by go_num, h1, hbel.setCell (by simp) _⟩
      case measure => simp [intOf]
    · skip
      have hsame := clampTo_same key k hlt (by subst q13; rfl)
      rw [hsame] at hrow
      subst q13
      go_wp2_with fail
      go_roundw
      case rel => exact ⟨13 + 1, by omega, by go_num, hrow, hbel⟩
      case measure => simp [intOf]
    · skip
      have hsame := clampTo_same key k hlt (by subst q14; rfl)
      rw [hsame] at hrow
      subst q14
      go_wp2_with fail
      go_roundw
      case rel => exact ⟨14 + 1, by omega, by go_num, hrow, hbel⟩
      case measure => simp [intOf]
    · skip
      have hc1 := hrow.byte k (by rw [clampTo_length]; exact hlt)
      rw [clampTo_get key k hlt] at hc1
      have hf := hrow.frozen k (by rw [cells_length, clampTo_length]; omega)
      have hset := clampTo_set key k hlt
      have hcb : clampB k (key.getD k 0) = key.getD k 0 &&& 15 := by simp only [clampB]; simp [q15]
      rw [hcb] at hset
      obtain ⟨c, hc⟩ : ∃ c, c = key.getD k 0 := ⟨_, rfl⟩
      obtain ⟨v, hv⟩ : ∃ v, v = c &&& 15 := ⟨_, rfl⟩
      have hand : Go.bits .and .u8 (c.toNat : Int) 15 = (v.toNat : Int) := by rw [hv]; exact and8 c 15
      rw [← hc, ← hv] at hset
      rw [← hc] at hc1
      have HSET := Lib.hid hset
      clear hset hcb hc hv
      subst q15
      go_wp2_with fail
      go_roundw
      case rel =>
       have h1 := hrow.set 15 (.int .u8 (v.toNat : Int))
       rw [cells_set, HSET.out] at h1
       exact ⟨15 + 1, by omega, by go_num, h1, hbel.setCell (by simp) _⟩
      case measure => simp [intOf]
  · obtain rfl : k = 16 := by omega
    rw [clampTo_all] at hrow
    obtain ⟨z, hzz⟩ : ∃ z, z = clampL key := ⟨_, rfl⟩
    have hzl : z.length = 16 := by rw [hzz]; simp [clampL]
    rw [← hzz] at hrow
    have HZZ := Lib.hid hzz
    have hcv := fun cap => Row.conv (P := Tryz.prog) (cap := cap) (n := 16) (l := z) 51 9 hrow hzl.symm Tryz.underlying51 Tryz.underlying5 Tryz.underlying9
    clear hzz
    go_wp2_with fail
    go_ret
    exact ⟨by rw [HZZ.out]; rfl, hbel⟩
set_option maxRecDepth 100000 in
set_option maxHeartbeats 6400000 in
theorem refTag (key b : Bs) (hk : key.length = 32) (hb : b.length ≤ 1000000) (w : World) :
 Calls Tryz.prog 80 #[S key, S b] w fun e w' => e = .returned (S (tagL key b)) ∧ Pu w w' := by
 obtain ⟨ii, hi, hz0, hz1, hz2⟩ := info_parts infoI
 have hmk : ∀ w, (Instr.makeSlice 30 (.int .i64 34) (.int .i64 34)).run Tryz.prog w = .ok (.slice (some ⟨w.heap.size, 0, none⟩) 34 34) (w.alloc (.cells (madeCells #[.int .i64 0] 34) 3)) := run_make_row' (P := Tryz.prog) 30 3 (.int .i64 0) 8 Tryz.underlying30 infoI rfl .i64 .i64 34 (by decide) (by decide)
 have hCl := fun w => refClamp key hk w
 obtain ⟨r, hr⟩ : ∃ r, r = clampL key := ⟨_, rfl⟩
 have hrl : r.length = 16 := by rw [hr]; simp [clampL]
 rw [← hr] at hCl
 obtain ⟨rv, hrv⟩ : ∃ v, v = leN r := ⟨_, rfl⟩
 obtain ⟨tot, htot⟩ : ∃ t, t = polyF rv 0 b := ⟨_, rfl⟩
 have hfin : tagL key b = putL ((tot + leN ((key.drop 16).take 16)) % 2 ^ 128) 16 := by rw [htot, hrv, hr]; rfl
 have HCL := Lib.hid hCl
 have HRV := Lib.hid hrv
 have HTOT := Lib.hid htot
 have HF := Lib.hid hfin
 clear hCl hr hrv htot hfin
 go_enter Tryz.func80, Tryz.ntmps80
 go_wp2_with (first
  | (go_at_call 124; refine (HCL.out _).mono ?_; rintro e w1 ⟨rfl, hp1⟩)
  | (go_at_call 125; refine (refCarryNil _).mono ?_; rintro e w2 ⟨x0, g0, c0, rfl, hoc0, hcar0, hg0, hr0, hp2⟩
     have hx0l : x0.length = 18 := by have := hcar0.most; have := hcar0.long; simp at *; omega
     rw [hx0l]))
 have hx0v : leV x0 = 0 := hcar0.val
 have hbel0 := Pu.trans hp1 hp2
 have hg0w : w.heap.size ≤ g0 := by have := hp1.size; omega
 go_loopw [6, 7] (fun v av wr => ∃ (at' : Nat) (xs : List Nat) (g cap : Nat), v = .slice (some ⟨g, 0, none⟩) 18 cap ∧ av = .int .i64 (at' : Int) ∧ at' ≤ b.length + 15 ∧ xs.length = 18 ∧ (∀ d ∈ xs, d < 256) ∧ leV xs < 2 ^ 130 ∧ polyF rv (leV xs % polyP) (b.drop at') = tot ∧ Row wr g 3 (ds xs) ∧ w.heap.size ≤ g ∧ Below w.heap.size w wr) (fun _ av _ => b.length + 16 - (intOf av).toNat)
 case atStart => exact ⟨0, x0, g0, c0, rfl, rfl, by omega, hx0l, hcar0.small, by rw [hx0v]; decide, by rw [hx0v]; exact HTOT.out.symm, hr0, hg0w, hbel0⟩
 case round =>
  clear hbel0 hg0w hx0v hr0 hcar0 hx0l hp1 hp2
  obtain ⟨at', xs, g, cap, rfl, rfl, hat, hxl, hxs, hxlt, hps, hrx, hgw, hbel⟩ := hrel
  by_cases hab : at' < b.length
  · have hab' : (at' : Int) < b.length := by omega
    have ha0 : (0 : Int) ≤ at' := by omega
    rw [polyF_step _ _ _ (by simp; omega), pstep_mod, List.drop_drop] at hps
    obtain ⟨p, hp⟩ : ∃ p, p = (b.drop at').take 16 := ⟨_, rfl⟩
    have hpl : p.length ≤ 16 := by rw [hp]; simp; omega
    rw [← hp] at hps
    obtain ⟨pp, hpp⟩ : ∃ pp, pp = p ++ [1] := ⟨_, rfl⟩
    have hppl : pp.length ≤ 17 := by rw [hpp]; simp; omega
    have hcat : p ++ [1] = pp := hpp.symm
    have k1 : (ByteArray.mk #[1]) = bs [1] := rfl
    have z9 : ¬ (9223372036854775807 < p.length + 1) := by omega
    have HPS := Lib.hid hps
    have HPP := Lib.hid hpp
    have a16 : IntKind.i64.wrap ((at' : Int) + 16) = at' + 16 := by rw [IntKind.wrap_i64]; omega
    have a16n : ((at' : Int) + 16).toNat = at' + 16 := by omega
    have a160 : (0 : Int) ≤ (at' : Int) + 16 := by omega
    clear hps hpp
    by_cases hfull : at' + 16 ≤ b.length
    · have m1 : (at' : Int) + 16 ≤ b.length := by omega
      have m2 : decide ((b.length : Int) < (at' : Int) + 16) = false := by simp; omega
      have m3 : min ((at' : Int) + 16) b.length = (at' : Int) + 16 := by omega
      have hpt : (b.take (at' + 16)).drop at' = p := by rw [hp, List.drop_take]; congr 1; omega
      have hle : (at' : Int) ≤ at' + 16 := by omega
      clear hp
      go_wp2_with fail
      go_loopw [9] (fun kv wq => ∃ (k : Nat) (z : List Nat), k ≤ pp.length ∧ kv = .int .i64 (k : Int) ∧ z.length = 18 ∧ leV z = leV xs + leN (pp.take k) ∧ (∀ d ∈ z, d ≤ 510) ∧ (∀ j, k ≤ j → z.getD j 0 = xs.getD j 0) ∧ Row wq g 3 (ds z) ∧ Below w.heap.size w wq) (fun kv _ => pp.length - (intOf kv).toNat)
      case atStart => exact ⟨0, xs, by omega, rfl, hxl, by simp [leN], fun d hd => by have := hxs d hd; omega, fun j _ => rfl, hrx, hbel⟩
      case round =>
       clear hrx hbel
       obtain ⟨k, z, hk, rfl, hzl, hzv, hzb, hzs, hz, hbel⟩ := hrel
       by_cases hkn : k < pp.length
       · have hkx : (k : Int) < pp.length := by omega
         have hzk := hzs k (Nat.le_refl k)
         have hxk := getD_small hxs k
         obtain ⟨zk, hzke⟩ : ∃ v, v = z.getD k 0 := ⟨_, rfl⟩
         rw [← hzke] at hzk
         obtain ⟨c, hc⟩ : ∃ c, pp[k] = c := ⟨_, rfl⟩
         have hcl := c.toNat_lt
         obtain ⟨cn, hcn⟩ : ∃ v, v = c.toNat := ⟨_, rfl⟩
         have hts := leN_take_succ pp k hkn
         rw [hc, ← hcn] at hts
         obtain ⟨v, hv⟩ : ∃ v, v = zk + cn := ⟨_, rfl⟩
         have hset := leV_set z k cn (by omega)
         rw [← hzke, ← hv, hzv, Nat.add_assoc, ← hts] at hset
         have e0 : (c.toNat : Int) = cn := by omega
         have e0w : IntKind.i64.wrap (cn : Int) = cn := by rw [IntKind.wrap_i64]; omega
         have e1 : (zk : Int) + cn = v := by omega
         have e1w : IntKind.i64.wrap (v : Int) = v := by rw [IntKind.wrap_i64]; omega
         have hk0 : (0 : Int) ≤ k := by omega
         have hk18 : (k : Int) < 18 := by omega
         have hvb : v ≤ 510 := by omega
         have HSET := Lib.hid hset
         have HZK := Lib.hid hzke
         have HZS := Lib.hid hzs
         have HCN := Lib.hid hcn
         clear hset hzke hzs hts hv hzk hzv hcn
         go_wp2_with fail
         apply region_last (n := 12) (hn := by kernel_rfl) (hlast := rfl) (hU := by kernel_rfl) (Φs := (Is _ :: Is _ :: Is _ :: Is _ :: Is _ :: Is _ :: Is _ :: Is _ :: Is _ :: Is _ :: Is _ :: Is _ :: [])) (hm := by kernel_rfl) (hE := by kernel_rfl) (hD := by kernel_rfl) (hsize := by kernel_rfl)
         case hop =>
          refine ⟨?_, ?_, ?_, ?_, ?_, ?_, ?_, ?_, ?_, ?_, ?_, ?_, trivial⟩
          · intro a' w' hs hp he
            have e6 := hs 6 (by kernel_rfl)
            try simp [Is, Region.binds] at he
            exact op_v
          · intro a' w' hs hp he
            have e9 := hs 9 (by kernel_rfl)
            try simp [Is, Region.binds] at he
            exact op_v
          · intro a' w' hs hp he
            have e6 := hs 6 (by kernel_rfl)
            try simp [Is, Region.binds] at he
            exact op_v
          · intro a' w' hs hp he
            have e9 := hs 9 (by kernel_rfl)
            try simp [Is, Region.binds] at he
            exact op_v
          · intro a' w' hs hp he
            try simp [Is, Region.binds] at he
            exact op_v
          · intro a' w' hs hp he
            try simp [Is, Region.binds] at he
            have c := Row.dig (hz.pu hp) k (by omega); rw [← HZK.out] at c; exact op_val rfl (wanted_none rfl) (by first | (go_simp; done) | (go_simp; rfl)) rfl (Pu.refl _)
          · intro a' w' hs hp he
            have e8 := hs 8 (by kernel_rfl)
            try simp [Is, Region.binds] at he
            exact op_v
          · intro a' w' hs hp he
            have e9 := hs 9 (by kernel_rfl)
            try simp [Is, Region.binds] at he
            exact op_v
          · intro a' w' hs hp he
            try simp [Is, Region.binds] at he
            exact op_v
          · intro a' w' hs hp he
            try simp [Is, Region.binds] at he
            exact op_v
          · intro a' w' hs hp he
            try simp [Is, Region.binds] at he
            exact op_v
          · intro a' w' hs hp he
            try simp [Is, Region.binds] at he
            exact op_v
         case hend =>
          intro a' w' hdef hsz hs hp hall
          obtain ⟨r0, r1, r2, r3, r4, r5, r6, r7, r8, r9, r10, r11, -⟩ := hall
          have hA := agree_done (agree_step (agree_step (agree_step (agree_step (agree_step (agree_step (agree_step (agree_step (agree_step (agree_step (agree_step (agree_step (agree_init [42, 43, 44, 45, 46, 47, 48, 49, 50, 51, 52, 53] hsz hs (by kernel_rfl)) r0) r1) r2) r3) r4) r5) r6) r7) r8) r9) r10) r11)
          have ha := act_of hA hdef
          rw [ha]
          clear ha hA hs hsz hdef r0 r1 r2 r3 r4 r5 r6 r7 r8 r9 r10 r11 
          (try simp only [List.setIfInBounds_toArray])
          (try dsimp only [List.set_cons_zero, List.set_cons_succ])
          (try simp only [Exit.then])
          have c := Row.dig (hz.pu hp) k (by omega); rw [← HZK.out] at c; have hf := (hz.pu hp).frozen k (by rw [ds_length]; omega)
          refine op_done rfl (wanted_none rfl) (by first | (go_simp; done) | (go_simp; rfl)) ?_
          (try simp only [Exit.inBlock, Exit.then])
          go_wp2_with fail
          go_roundw
          case rel =>
           have h1 := (hz.pu hp).set k (.int .i64 (v : Int))
           rw [ds_set] at h1
           have h3 := (hbel.trans (Below.mono hp hbel.size)).setCell (p := (⟨g, k, none⟩ : Addr)) hgw (.int .i64 (v : Int))
           have h5 : ∀ e ∈ z.set k v, e ≤ 510 := set_bound hzb (Nat.le_refl _) hvb
           have h6 : (z.set k v).length = 18 := by rw [List.length_set, hzl]
           have h7 : ∀ j, k + 1 ≤ j → (z.set k v).getD j 0 = xs.getD j 0 := fun j hj => by rw [lgetD_set_ne _ _ _ _ (by omega)]; exact HZS.out j (by omega)
           first | exact ⟨k + 1, z.set k v, by omega, by go_num, h6, HSET.out, h5, h7, h1, h3⟩ | ((repeat apply Exists.intro); exact ⟨⟨k + 1, z.set k v, by omega, by go_num, h6, HSET.out, h5, h7, h1, h3⟩, rfl⟩)
          case measure => simp [intOf]; omega
       · obtain rfl : k = pp.length := by omega
         have hkd : decide ((pp.length : Int) < pp.length) = false := by simp
         rw [List.take_length] at hzv
         have HZV := Lib.hid hzv
         clear hzs hzv
         go_wp2_with fail
         obtain ⟨wo, hwo⟩ : ∃ wo : World, wo = wr := ⟨_, rfl⟩
         rw [← hwo] at hz hbel ⊢
         clear hwo
         obtain ⟨gp, hgp⟩ : ∃ gp, gp = wo.heap.size := ⟨_, rfl⟩
         have hq0 : Row (wo.alloc (.cells (madeCells #[.int .i64 0] 34) 3)) gp 3 (ds (List.replicate 34 0)) := Row.newAt _ _ _ _ hgp.symm (by kernel_rfl)
         have hgpw : w.heap.size ≤ gp := by have := hbel.size; omega
         have hgne : g ≠ gp := by have := hz.lt; omega
         replace hz := hz.alloc (.cells (madeCells #[.int .i64 0] 34) 3)
         replace hbel := Pu.alloc hbel (.cells (madeCells #[.int .i64 0] 34) 3)
         rw [← hgp]
         clear hgp
         go_loopw [11] (fun iv wq => ∃ (i : Nat) (q : List Nat), i ≤ 18 ∧ iv = .int .i64 (i : Int) ∧ q.length = 34 ∧ leV q = leV (z.take i) * rv ∧ (∀ d ∈ q, d ≤ 16 * i * 131072) ∧ Row wq gp 3 (ds q) ∧ Row wq g 3 (ds z) ∧ Below w.heap.size w wq) (fun iv _ => 18 - (intOf iv).toNat)
         case atStart => exact ⟨0, List.replicate 34 0, by omega, rfl, by simp, by rw [leV_zeros]; simp [leV], by intro d hd; rw [(List.mem_replicate.1 hd).2]; omega, hq0, hz, hbel⟩
         case round =>
          clear hq0 hz hbel
          obtain ⟨i, q, hi18, rfl, hql, hqv, hqb, hq, hz, hbel⟩ := hrel
          have hZV := HZV.out
          by_cases hi : i < 18
          · have hi0 : (0 : Int) ≤ i := by omega
            have hi1 : (i : Int) < 18 := by omega
            have hzi := getD_le40 hzb i (by omega)
            have hci := fun (W : World) (h : Row W g 3 (ds z)) => Row.dig h i (by omega)
            have hti := leV_take_succ' z i (by omega)
            obtain ⟨zi, hzie⟩ : ∃ v, v = z.getD i 0 := ⟨_, rfl⟩
            rw [← hzie] at hzi hci hti
            have HCI := Lib.hid hci
            have HTI := Lib.hid hti
            obtain ⟨A, hA⟩ : ∃ A, A = leV (z.take i) := ⟨_, rfl⟩
            rw [← hA] at hqv
            have HA := Lib.hid hA
            have HQV := Lib.hid hqv
            clear hci hti hzie hqv hA hZV
            go_wp2_with fail
            go_loopw [12] (fun jv wz => ∃ (j : Nat) (q : List Nat), j ≤ 16 ∧ jv = .int .i64 (j : Int) ∧ q.length = 34 ∧ leV q = A * rv + 256 ^ i * (zi * leN (r.take j)) ∧ (∀ d ∈ q, d ≤ (16 * i + j) * 131072) ∧ Row wz gp 3 (ds q) ∧ Row wz g 3 (ds z) ∧ Below w.heap.size w wz) (fun jv _ => 16 - (intOf jv).toNat)
            case atStart => exact ⟨0, q, by omega, rfl, hql, by rw [HQV.out]; simp [leN], fun d hd => by have := hqb d hd; omega, hq, hz, hbel⟩
            case round =>
             clear hq hz hbel hqb hql
             obtain ⟨j, q, hj16, rfl, hql, hqv, hqb, hq, hz, hbel⟩ := hrel
             by_cases hj : j < 16
             · obtain ⟨s, hs⟩ : ∃ s, s = i + j := ⟨_, rfl⟩
               have hqs := getD_le40 hqb s (by omega)
               obtain ⟨qs, hqse⟩ : ∃ v, v = q.getD s 0 := ⟨_, rfl⟩
               obtain ⟨c, hc⟩ : ∃ c, r[j] = c := ⟨_, rfl⟩
               have hcl := c.toNat_lt
               obtain ⟨cn, hcn⟩ : ∃ v, v = c.toNat := ⟨_, rfl⟩
               have hts := leN_take_succ r j (by omega)
               rw [hc, ← hcn] at hts
               obtain ⟨m, hm⟩ : ∃ v, v = zi * cn := ⟨_, rfl⟩
               have hml : m ≤ 510 * 255 := by rw [hm]; exact Nat.mul_le_mul hzi (by omega)
               obtain ⟨v, hv⟩ : ∃ v, v = qs + m := ⟨_, rfl⟩
               have hset := leV_set q s m (by omega)
               rw [← hqse, ← hv, hqv, hs, Nat.pow_add, hm] at hset
               have hms := mul_step A zi (leN (r.take j)) (leN (r.take (j+1))) cn rv 0 (256 ^ i) (256 ^ j) hts
               rw [← hms, ← hs] at hset
               rw [← hqse] at hqs
               have e0 : (c.toNat : Int) = cn := by omega
               have e0w : IntKind.i64.wrap (cn : Int) = cn := by rw [IntKind.wrap_i64]; omega
               have e1 : (zi : Int) * cn = m := by rw [hm]; simp
               have e1w : IntKind.i64.wrap (m : Int) = m := by rw [IntKind.wrap_i64]; omega
               have e2 : (qs : Int) + m = v := by omega
               have e2w : IntKind.i64.wrap (v : Int) = v := by rw [IntKind.wrap_i64]; omega
               have e3 : (i : Int) + j = s := by omega
               have e3w : IntKind.i64.wrap (s : Int) = s := by rw [IntKind.wrap_i64]; omega
               have hs0 : (0 : Int) ≤ s := by omega
               have hs34 : (s : Int) < 34 := by omega
               have hj0 : (0 : Int) ≤ j := by omega
               have hj1 : (j : Int) < 16 := by omega
               have hjr : (j : Int) < r.length := by omega
               have hvb : v ≤ (16 * i + (j + 1)) * 131072 := by omega
               have hs34n : s < 34 := by omega
               have HSET := Lib.hid hset
               have HQS := Lib.hid hqse
               have HC := Lib.hid hc
               clear hset hqse hts hv hm hms hcn hqv hs
               have hc' : r[j] = c := hc
               go_wp2_with fail
               apply region_last (n := 21) (hn := by kernel_rfl) (hlast := rfl) (hU := by kernel_rfl) (Φs := (Is _ :: Is _ :: Is _ :: Is _ :: Is _ :: Is _ :: Is _ :: Is _ :: Is _ :: Is _ :: Is _ :: Is _ :: Is _ :: Is _ :: Is _ :: Is _ :: Is _ :: Is _ :: Is _ :: Is _ :: Is _ :: [])) (hm := by kernel_rfl) (hE := by kernel_rfl) (hD := by kernel_rfl) (hsize := by kernel_rfl)
               case hop =>
                refine ⟨?_, ?_, ?_, ?_, ?_, ?_, ?_, ?_, ?_, ?_, ?_, ?_, ?_, ?_, ?_, ?_, ?_, ?_, ?_, ?_, ?_, trivial⟩
                · intro a' w' hs hp he
                  have e10 := hs 10 (by kernel_rfl)
                  try simp [Is, Region.binds] at he
                  exact op_v
                · intro a' w' hs hp he
                  have e11 := hs 11 (by kernel_rfl)
                  try simp [Is, Region.binds] at he
                  exact op_v
                · intro a' w' hs hp he
                  have e12 := hs 12 (by kernel_rfl)
                  try simp [Is, Region.binds] at he
                  exact op_v
                · intro a' w' hs hp he
                  try simp [Is, Region.binds] at he
                  exact op_v
                · intro a' w' hs hp he
                  have e10 := hs 10 (by kernel_rfl)
                  try simp [Is, Region.binds] at he
                  exact op_v
                · intro a' w' hs hp he
                  have e11 := hs 11 (by kernel_rfl)
                  try simp [Is, Region.binds] at he
                  exact op_v
                · intro a' w' hs hp he
                  have e12 := hs 12 (by kernel_rfl)
                  try simp [Is, Region.binds] at he
                  exact op_v
                · intro a' w' hs hp he
                  try simp [Is, Region.binds] at he
                  exact op_v
                · intro a' w' hs hp he
                  try simp [Is, Region.binds] at he
                  exact op_v
                · intro a' w' hs hp he
                  try simp [Is, Region.binds] at he
                  have c := Row.dig (hq.pu hp) s (by omega); rw [← HQS.out] at c; exact op_val rfl (wanted_none rfl) (by first | (go_simp; done) | (go_simp; rfl)) rfl (Pu.refl _)
                · intro a' w' hs hp he
                  have e6 := hs 6 (by kernel_rfl)
                  try simp [Is, Region.binds] at he
                  exact op_v
                · intro a' w' hs hp he
                  have e11 := hs 11 (by kernel_rfl)
                  try simp [Is, Region.binds] at he
                  exact op_v
                · intro a' w' hs hp he
                  try simp [Is, Region.binds] at he
                  exact op_v
                · intro a' w' hs hp he
                  try simp [Is, Region.binds] at he
                  have c := HCI.out _ (hz.pu hp); exact op_val rfl (wanted_none rfl) (by first | (go_simp; done) | (go_simp; rfl)) rfl (Pu.refl _)
                · intro a' w' hs hp he
                  have e5 := hs 5 (by kernel_rfl)
                  try simp [Is, Region.binds] at he
                  exact op_v
                · intro a' w' hs hp he
                  have e12 := hs 12 (by kernel_rfl)
                  try simp [Is, Region.binds] at he
                  exact op_v
                · intro a' w' hs hp he
                  try simp [Is, Region.binds] at he
                  exact op_v
                · intro a' w' hs hp he
                  try simp [Is, Region.binds] at he
                  exact op_v
                · intro a' w' hs hp he
                  try simp [Is, Region.binds] at he
                  exact op_v
                · intro a' w' hs hp he
                  try simp [Is, Region.binds] at he
                  exact op_v
                · intro a' w' hs hp he
                  try simp [Is, Region.binds] at he
                  exact op_v
               case hend =>
                intro a' w' hdef hsz hs hp hall
                obtain ⟨r0, r1, r2, r3, r4, r5, r6, r7, r8, r9, r10, r11, r12, r13, r14, r15, r16, r17, r18, r19, r20, -⟩ := hall
                have hA := agree_done (agree_step (agree_step (agree_step (agree_step (agree_step (agree_step (agree_step (agree_step (agree_step (agree_step (agree_step (agree_step (agree_step (agree_step (agree_step (agree_step (agree_step (agree_step (agree_step (agree_step (agree_step (agree_init [68, 69, 70, 71, 72, 73, 74, 75, 76, 77, 78, 79, 80, 81, 82, 83, 84, 85, 86, 87, 88] hsz hs (by kernel_rfl)) r0) r1) r2) r3) r4) r5) r6) r7) r8) r9) r10) r11) r12) r13) r14) r15) r16) r17) r18) r19) r20)
                have ha := act_of hA hdef
                rw [ha]
                clear ha hA hs hsz hdef r0 r1 r2 r3 r4 r5 r6 r7 r8 r9 r10 r11 r12 r13 r14 r15 r16 r17 r18 r19 r20 
                (try simp only [List.setIfInBounds_toArray])
                (try dsimp only [List.set_cons_zero, List.set_cons_succ])
                (try simp only [Exit.then])
                have c := Row.dig (hq.pu hp) s (by omega); rw [← HQS.out] at c; have hf := (hq.pu hp).frozen s (by rw [ds_length]; omega)
                refine op_done rfl (wanted_none rfl) (by first | (go_simp; done) | (go_simp; rfl)) ?_
                (try simp only [Exit.inBlock, Exit.then])
                go_wp2_with fail
                go_roundw
                case rel =>
                 have h1 := (hq.pu hp).set s (.int .i64 (v : Int))
                 rw [ds_set] at h1
                 have h2 := (hz.pu hp).setOther (⟨gp, s, none⟩ : Addr) (.int .i64 (v : Int)) (by simp; omega)
                 have h3 := (hbel.trans (Below.mono hp hbel.size)).setCell (p := (⟨gp, s, none⟩ : Addr)) hgpw (.int .i64 (v : Int))
                 have h5 : ∀ e ∈ q.set s v, e ≤ (16 * i + (j + 1)) * 131072 := set_bound hqb (by omega) hvb
                 have h6 : (q.set s v).length = 34 := by rw [List.length_set, hql]
                 first | exact ⟨j + 1, q.set s v, by omega, by go_num, h6, HSET.out, h5, h1, h2, h3⟩ | ((repeat apply Exists.intro); exact ⟨⟨j + 1, q.set s v, by omega, by go_num, h6, HSET.out, h5, h1, h2, h3⟩, rfl⟩)
                case measure => simp [intOf]; omega
             · obtain rfl : j = 16 := by omega
               have hqv2 : leV q = leV (z.take (i+1)) * rv := by
                rw [hqv, List.take_of_length_le (by omega), ← HRV.out, HTI.out, ← HA.out, Nat.add_mul, Nat.mul_assoc]
               have hqb2 : ∀ d ∈ q, d ≤ 16 * (i + 1) * 131072 := fun d hd => by have := hqb d hd; omega
               have HQ2 := Lib.hid hqv2
               clear hqv hqv2
               go_wp2_with fail
               go_roundw
               case rel => first | exact ⟨i + 1, q, by omega, by go_num, hql, HQ2.out, hqb2, hq, hz, hbel⟩ | ((repeat apply Exists.intro); exact ⟨⟨i + 1, q, by omega, by go_num, hql, HQ2.out, hqb2, hq, hz, hbel⟩, rfl⟩)
               case measure => simp [intOf]; omega
          · obtain rfl : i = 18 := by omega
            rw [List.take_of_length_le (by omega), hZV] at hqv
            have hFo : Calls Tryz.prog 126 #[.slice (some ⟨gp, 0, none⟩) 34 34] wr (FoldPost 3 q wr) := by
             have h := refFold q gp 34 wr hq (fun d hd => by have := hqb d hd; omega) (by omega) (by omega)
             rw [hql] at h; exact h
            have hpst : leV q % polyP = pstep rv (leV xs) p := by rw [hqv, pstep, HPP.out]
            have HFO := Lib.hid hFo
            have HPST := Lib.hid hpst
            have hbs := hbel.size
            clear hFo hpst hqv hZV
            go_wp2_with (go_at_call 126; refine HFO.out.mono ?_; rintro e w6 ⟨o, g6, c6, rfl, hfo, hc6, hg6, hr6, hp6⟩)
            go_roundw
            case rel =>
             have h1 : polyF rv (leV o % polyP) (b.drop (at' + 16)) = tot := by rw [hfo.mod, HPST.out]; exact HPS.out
             have h2 := hbel.trans (Below.mono hp6 hbs)
             first | exact ⟨at' + 16, o, g6, c6, rfl, by go_num, by omega, hfo.len, hfo.small, hfo.lt, h1, hr6, by omega, h2⟩ | ((repeat apply Exists.intro); exact ⟨⟨at' + 16, o, g6, c6, rfl, by go_num, by omega, hfo.len, hfo.small, hfo.lt, h1, hr6, by omega, h2⟩, rfl⟩)
            case measure => simp [intOf]; omega
    · have m1 : (b.length : Int) < (at' : Int) + 16 := by omega
      have m3 : min ((at' : Int) + 16) b.length = b.length := by omega
      have hpt : b.drop at' = p := by rw [hp, List.take_of_length_le (by simp; omega)]
      have hle : (at' : Int) ≤ b.length := by omega
      have htk : b.take b.length = b := List.take_length
      clear hp
      go_wp2_with fail
      go_loopw [9] (fun kv wq => ∃ (k : Nat) (z : List Nat), k ≤ pp.length ∧ kv = .int .i64 (k : Int) ∧ z.length = 18 ∧ leV z = leV xs + leN (pp.take k) ∧ (∀ d ∈ z, d ≤ 510) ∧ (∀ j, k ≤ j → z.getD j 0 = xs.getD j 0) ∧ Row wq g 3 (ds z) ∧ Below w.heap.size w wq) (fun kv _ => pp.length - (intOf kv).toNat)
      case atStart => exact ⟨0, xs, by omega, rfl, hxl, by simp [leN], fun d hd => by have := hxs d hd; omega, fun j _ => rfl, hrx, hbel⟩
      case round =>
       clear hrx hbel
       obtain ⟨k, z, hk, rfl, hzl, hzv, hzb, hzs, hz, hbel⟩ := hrel
       by_cases hkn : k < pp.length
       · have hkx : (k : Int) < pp.length := by omega
         have hzk := hzs k (Nat.le_refl k)
         have hxk := getD_small hxs k
         obtain ⟨zk, hzke⟩ : ∃ v, v = z.getD k 0 := ⟨_, rfl⟩
         rw [← hzke] at hzk
         obtain ⟨c, hc⟩ : ∃ c, pp[k] = c := ⟨_, rfl⟩
         have hcl := c.toNat_lt
         obtain ⟨cn, hcn⟩ : ∃ v, v = c.toNat := ⟨_, rfl⟩
         have hts := leN_take_succ pp k hkn
         rw [hc, ← hcn] at hts
         obtain ⟨v, hv⟩ : ∃ v, v = zk + cn := ⟨_, rfl⟩
         have hset := leV_set z k cn (by omega)
         rw [← hzke, ← hv, hzv, Nat.add_assoc, ← hts] at hset
         have e0 : (c.toNat : Int) = cn := by omega
         have e0w : IntKind.i64.wrap (cn : Int) = cn := by rw [IntKind.wrap_i64]; omega
         have e1 : (zk : Int) + cn = v := by omega
         have e1w : IntKind.i64.wrap (v : Int) = v := by rw [IntKind.wrap_i64]; omega
         have hk0 : (0 : Int) ≤ k := by omega
         have hk18 : (k : Int) < 18 := by omega
         have hvb : v ≤ 510 := by omega
         have HSET := Lib.hid hset
         have HZK := Lib.hid hzke
         have HZS := Lib.hid hzs
         have HCN := Lib.hid hcn
         clear hset hzke hzs hts hv hzk hzv hcn
         go_wp2_with fail
         apply region_last (n := 12) (hn := by kernel_rfl) (hlast := rfl) (hU := by kernel_rfl) (Φs := (Is _ :: Is _ :: Is _ :: Is _ :: Is _ :: Is _ :: Is _ :: Is _ :: Is _ :: Is _ :: Is _ :: Is _ :: [])) (hm := by kernel_rfl) (hE := by kernel_rfl) (hD := by kernel_rfl) (hsize := by kernel_rfl)
         case hop =>
          refine ⟨?_, ?_, ?_, ?_, ?_, ?_, ?_, ?_, ?_, ?_, ?_, ?_, trivial⟩
          · intro a' w' hs hp he
            have e6 := hs 6 (by kernel_rfl)
            try simp [Is, Region.binds] at he
            exact op_v
          · intro a' w' hs hp he
            have e9 := hs 9 (by kernel_rfl)
            try simp [Is, Region.binds] at he
            exact op_v
          · intro a' w' hs hp he
            have e6 := hs 6 (by kernel_rfl)
            try simp [Is, Region.binds] at he
            exact op_v
          · intro a' w' hs hp he
            have e9 := hs 9 (by kernel_rfl)
            try simp [Is, Region.binds] at he
            exact op_v
          · intro a' w' hs hp he
            try simp [Is, Region.binds] at he
            exact op_v
          · intro a' w' hs hp he
            try simp [Is, Region.binds] at he
            have c := Row.dig (hz.pu hp) k (by omega); rw [← HZK.out] at c; exact op_val rfl (wanted_none rfl) (by first | (go_simp; done) | (go_simp; rfl)) rfl (Pu.refl _)
          · intro a' w' hs hp he
            have e8 := hs 8 (by kernel_rfl)
            try simp [Is, Region.binds] at he
            exact op_v
          · intro a' w' hs hp he
            have e9 := hs 9 (by kernel_rfl)
            try simp [Is, Region.binds] at he
            exact op_v
          · intro a' w' hs hp he
            try simp [Is, Region.binds] at he
            exact op_v
          · intro a' w' hs hp he
            try simp [Is, Region.binds] at he
            exact op_v
          · intro a' w' hs hp he
            try simp [Is, Region.binds] at he
            exact op_v
          · intro a' w' hs hp he
            try simp [Is, Region.binds] at he
            exact op_v
         case hend =>
          intro a' w' hdef hsz hs hp hall
          obtain ⟨r0, r1, r2, r3, r4, r5, r6, r7, r8, r9, r10, r11, -⟩ := hall
          have hA := agree_done (agree_step (agree_step (agree_step (agree_step (agree_step (agree_step (agree_step (agree_step (agree_step (agree_step (agree_step (agree_step (agree_init [42, 43, 44, 45, 46, 47, 48, 49, 50, 51, 52, 53] hsz hs (by kernel_rfl)) r0) r1) r2) r3) r4) r5) r6) r7) r8) r9) r10) r11)
          have ha := act_of hA hdef
          rw [ha]
          clear ha hA hs hsz hdef r0 r1 r2 r3 r4 r5 r6 r7 r8 r9 r10 r11 
          (try simp only [List.setIfInBounds_toArray])
          (try dsimp only [List.set_cons_zero, List.set_cons_succ])
          (try simp only [Exit.then])
          have c := Row.dig (hz.pu hp) k (by omega); rw [← HZK.out] at c; have hf := (hz.pu hp).frozen k (by rw [ds_length]; omega)
          refine op_done rfl (wanted_none rfl) (by first | (go_simp; done) | (go_simp; rfl)) ?_
          (try simp only [Exit.inBlock, Exit.then])
          go_wp2_with fail
          go_roundw
          case rel =>
           have h1 := (hz.pu hp).set k (.int .i64 (v : Int))
           rw [ds_set] at h1
           have h3 := (hbel.trans (Below.mono hp hbel.size)).setCell (p := (⟨g, k, none⟩ : Addr)) hgw (.int .i64 (v : Int))
           have h5 : ∀ e ∈ z.set k v, e ≤ 510 := set_bound hzb (Nat.le_refl _) hvb
           have h6 : (z.set k v).length = 18 := by rw [List.length_set, hzl]
           have h7 : ∀ j, k + 1 ≤ j → (z.set k v).getD j 0 = xs.getD j 0 := fun j hj => by rw [lgetD_set_ne _ _ _ _ (by omega)]; exact HZS.out j (by omega)
           first | exact ⟨k + 1, z.set k v, by omega, by go_num, h6, HSET.out, h5, h7, h1, h3⟩ | ((repeat apply Exists.intro); exact ⟨⟨k + 1, z.set k v, by omega, by go_num, h6, HSET.out, h5, h7, h1, h3⟩, rfl⟩)
          case measure => simp [intOf]; omega
       · obtain rfl : k = pp.length := by omega
         have hkd : decide ((pp.length : Int) < pp.length) = false := by simp
         rw [List.take_length] at hzv
         have HZV := Lib.hid hzv
         clear hzs hzv
         go_wp2_with fail
         obtain ⟨wo, hwo⟩ : ∃ wo : World, wo = wr := ⟨_, rfl⟩
         rw [← hwo] at hz hbel ⊢
         clear hwo
         obtain ⟨gp, hgp⟩ : ∃ gp, gp = wo.heap.size := ⟨_, rfl⟩
         have hq0 : Row (wo.alloc (.cells (madeCells #[.int .i64 0] 34) 3)) gp 3 (ds (List.replicate 34 0)) := Row.newAt _ _ _ _ hgp.symm (by kernel_rfl)
         have hgpw : w.heap.size ≤ gp := by have := hbel.size; omega
         have hgne : g ≠ gp := by have := hz.lt; omega
         replace hz := hz.alloc (.cells (madeCells #[.int .i64 0] 34) 3)
         replace hbel := Pu.alloc hbel (.cells (madeCells #[.int .i64 0] 34) 3)
         rw [← hgp]
         clear hgp
         go_loopw [11] (fun iv wq => ∃ (i : Nat) (q : List Nat), i ≤ 18 ∧ iv = .int .i64 (i : Int) ∧ q.length = 34 ∧ leV q = leV (z.take i) * rv ∧ (∀ d ∈ q, d ≤ 16 * i * 131072) ∧ Row wq gp 3 (ds q) ∧ Row wq g 3 (ds z) ∧ Below w.heap.size w wq) (fun iv _ => 18 - (intOf iv).toNat)
         case atStart => exact ⟨0, List.replicate 34 0, by omega, rfl, by simp, by rw [leV_zeros]; simp [leV], by intro d hd; rw [(List.mem_replicate.1 hd).2]; omega, hq0, hz, hbel⟩
         case round =>
          clear hq0 hz hbel
          obtain ⟨i, q, hi18, rfl, hql, hqv, hqb, hq, hz, hbel⟩ := hrel
          have hZV := HZV.out
          by_cases hi : i < 18
          · have hi0 : (0 : Int) ≤ i := by omega
            have hi1 : (i : Int) < 18 := by omega
            have hzi := getD_le40 hzb i (by omega)
            have hci := fun (W : World) (h : Row W g 3 (ds z)) => Row.dig h i (by omega)
            have hti := leV_take_succ' z i (by omega)
            obtain ⟨zi, hzie⟩ : ∃ v, v = z.getD i 0 := ⟨_, rfl⟩
            rw [← hzie] at hzi hci hti
            have HCI := Lib.hid hci
            have HTI := Lib.hid hti
            obtain ⟨A, hA⟩ : ∃ A, A = leV (z.take i) := ⟨_, rfl⟩
            rw [← hA] at hqv
            have HA := Lib.hid hA
            have HQV := Lib.hid hqv
            clear hci hti hzie hqv hA hZV
            go_wp2_with fail
            go_loopw [12] (fun jv wz => ∃ (j : Nat) (q : List Nat), j ≤ 16 ∧ jv = .int .i64 (j : Int) ∧ q.length = 34 ∧ leV q = A * rv + 256 ^ i * (zi * leN (r.take j)) ∧ (∀ d ∈ q, d ≤ (16 * i + j) * 131072) ∧ Row wz gp 3 (ds q) ∧ Row wz g 3 (ds z) ∧ Below w.heap.size w wz) (fun jv _ => 16 - (intOf jv).toNat)
            case atStart => exact ⟨0, q, by omega, rfl, hql, by rw [HQV.out]; simp [leN], fun d hd => by have := hqb d hd; omega, hq, hz, hbel⟩
            case round =>
             clear hq hz hbel hqb hql
             obtain ⟨j, q, hj16, rfl, hql, hqv, hqb, hq, hz, hbel⟩ := hrel
             by_cases hj : j < 16
             · obtain ⟨s, hs⟩ : ∃ s, s = i + j := ⟨_, rfl⟩
               have hqs := getD_le40 hqb s (by omega)
               obtain ⟨qs, hqse⟩ : ∃ v, v = q.getD s 0 := ⟨_, rfl⟩
               obtain ⟨c, hc⟩ : ∃ c, r[j] = c := ⟨_, rfl⟩
               have hcl := c.toNat_lt
               obtain ⟨cn, hcn⟩ : ∃ v, v = c.toNat := ⟨_, rfl⟩
               have hts := leN_take_succ r j (by omega)
               rw [hc, ← hcn] at hts
               obtain ⟨m, hm⟩ : ∃ v, v = zi * cn := ⟨_, rfl⟩
               have hml : m ≤ 510 * 255 := by rw [hm]; exact Nat.mul_le_mul hzi (by omega)
               obtain ⟨v, hv⟩ : ∃ v, v = qs + m := ⟨_, rfl⟩
               have hset := leV_set q s m (by omega)
               rw [← hqse, ← hv, hqv, hs, Nat.pow_add, hm] at hset
               have hms := mul_step A zi (leN (r.take j)) (leN (r.take (j+1))) cn rv 0 (256 ^ i) (256 ^ j) hts
               rw [← hms, ← hs] at hset
               rw [← hqse] at hqs
               have e0 : (c.toNat : Int) = cn := by omega
               have e0w : IntKind.i64.wrap (cn : Int) = cn := by rw [IntKind.wrap_i64]; omega
               have e1 : (zi : Int) * cn = m := by rw [hm]; simp
               have e1w : IntKind.i64.wrap (m : Int) = m := by rw [IntKind.wrap_i64]; omega
               have e2 : (qs : Int) + m = v := by omega
               have e2w : IntKind.i64.wrap (v : Int) = v := by rw [IntKind.wrap_i64]; omega
               have e3 : (i : Int) + j = s := by omega
               have e3w : IntKind.i64.wrap (s : Int) = s := by rw [IntKind.wrap_i64]; omega
               have hs0 : (0 : Int) ≤ s := by omega
               have hs34 : (s : Int) < 34 := by omega
               have hj0 : (0 : Int) ≤ j := by omega
               have hj1 : (j : Int) < 16 := by omega
               have hjr : (j : Int) < r.length := by omega
               have hvb : v ≤ (16 * i + (j + 1)) * 131072 := by omega
               have hs34n : s < 34 := by omega
               have HSET := Lib.hid hset
               have HQS := Lib.hid hqse
               have HC := Lib.hid hc
               clear hset hqse hts hv hm hms hcn hqv hs
               have hc' : r[j] = c := hc
               go_wp2_with fail
               apply region_last (n := 21) (hn := by kernel_rfl) (hlast := rfl) (hU := by kernel_rfl) (Φs := (Is _ :: Is _ :: Is _ :: Is _ :: Is _ :: Is _ :: Is _ :: Is _ :: Is _ :: Is _ :: Is _ :: Is _ :: Is _ :: Is _ :: Is _ :: Is _ :: Is _ :: Is _ :: Is _ :: Is _ :: Is _ :: [])) (hm := by kernel_rfl) (hE := by kernel_rfl) (hD := by kernel_rfl) (hsize := by kernel_rfl)
               case hop =>
                refine ⟨?_, ?_, ?_, ?_, ?_, ?_, ?_, ?_, ?_, ?_, ?_, ?_, ?_, ?_, ?_, ?_, ?_, ?_, ?_, ?_, ?_, trivial⟩
                · intro a' w' hs hp he
                  have e10 := hs 10 (by kernel_rfl)
                  try simp [Is, Region.binds] at he
                  exact op_v
                · intro a' w' hs hp he
                  have e11 := hs 11 (by kernel_rfl)
                  try simp [Is, Region.binds] at he
                  exact op_v
                · intro a' w' hs hp he
                  have e12 := hs 12 (by kernel_rfl)
                  try simp [Is, Region.binds] at he
                  exact op_v
                · intro a' w' hs hp he
                  try simp [Is, Region.binds] at he
                  exact op_v
                · intro a' w' hs hp he
                  have e10 := hs 10 (by kernel_rfl)
                  try simp [Is, Region.binds] at he
                  exact op_v
                · intro a' w' hs hp he
                  have e11 := hs 11 (by kernel_rfl)
                  try simp [Is, Region.binds] at he
                  exact op_v
                · intro a' w' hs hp he
                  have e12 := hs 12 (by kernel_rfl)
                  try simp [Is, Region.binds] at he
                  exact op_v
                · intro a' w' hs hp he
                  try simp [Is, Region.binds] at he
                  exact op_v
                · intro a' w' hs hp he
                  try simp [Is, Region.binds] at he
                  exact op_v
                · intro a' w' hs hp he
                  try simp [Is, Region.binds] at he
                  have c := Row.dig (hq.pu hp) s (by omega); rw [← HQS.out] at c; exact op_val rfl (wanted_none rfl) (by first | (go_simp; done) | (go_simp; rfl)) rfl (Pu.refl _)
                · intro a' w' hs hp he
                  have e6 := hs 6 (by kernel_rfl)
                  try simp [Is, Region.binds] at he
                  exact op_v
                · intro a' w' hs hp he
                  have e11 := hs 11 (by kernel_rfl)
                  try simp [Is, Region.binds] at he
                  exact op_v
                · intro a' w' hs hp he
                  try simp [Is, Region.binds] at he
                  exact op_v
                · intro a' w' hs hp he
                  try simp [Is, Region.binds] at he
                  have c := HCI.out _ (hz.pu hp); exact op_val rfl (wanted_none rfl) (by first | (go_simp; done) | (go_simp; rfl)) rfl (Pu.refl _)
                · intro a' w' hs hp he
                  have e5 := hs 5 (by kernel_rfl)
                  try simp [Is, Region.binds] at he
                  exact op_v
                · intro a' w' hs hp he
                  have e12 := hs 12 (by kernel_rfl)
                  try simp [Is, Region.binds] at he
                  exact op_v
                · intro a' w' hs hp he
                  try simp [Is, Region.binds] at he
                  exact op_v
                · intro a' w' hs hp he
                  try simp [Is, Region.binds] at he
                  exact op_v
                · intro a' w' hs hp he
                  try simp [Is, Region.binds] at he
                  exact op_v
                · intro a' w' hs hp he
                  try simp [Is, Region.binds] at he
                  exact op_v
                · intro a' w' hs hp he
                  try simp [Is, Region.binds] at he
                  exact op_v
               case hend =>
                intro a' w' hdef hsz hs hp hall
                obtain ⟨r0, r1, r2, r3, r4, r5, r6, r7, r8, r9, r10, r11, r12, r13, r14, r15, r16, r17, r18, r19, r20, -⟩ := hall
                have hA := agree_done (agree_step (agree_step (agree_step (agree_step (agree_step (agree_step (agree_step (agree_step (agree_step (agree_step (agree_step (agree_step (agree_step (agree_step (agree_step (agree_step (agree_step (agree_step (agree_step (agree_step (agree_step (agree_init [68, 69, 70, 71, 72, 73, 74, 75, 76, 77, 78, 79, 80, 81, 82, 83, 84, 85, 86, 87, 88] hsz hs (by kernel_rfl)) r0) r1) r2) r3) r4) r5) r6) r7) r8) r9) r10) r11) r12) r13) r14) r15) r16) r17) r18) r19) r20)
                have ha := act_of hA hdef
                rw [ha]
                clear ha hA hs hsz hdef r0 r1 r2 r3 r4 r5 r6 r7 r8 r9 r10 r11 r12 r13 r14 r15 r16 r17 r18 r19 r20 
                (try simp only [List.setIfInBounds_toArray])
                (try dsimp only [List.set_cons_zero, List.set_cons_succ])
                (try simp only [Exit.then])
                have c := Row.dig (hq.pu hp) s (by omega); rw [← HQS.out] at c; have hf := (hq.pu hp).frozen s (by rw [ds_length]; omega)
                refine op_done rfl (wanted_none rfl) (by first | (go_simp; done) | (go_simp; rfl)) ?_
                (try simp only [Exit.inBlock, Exit.then])
                go_wp2_with fail
                go_roundw
                case rel =>
                 have h1 := (hq.pu hp).set s (.int .i64 (v : Int))
                 rw [ds_set] at h1
                 have h2 := (hz.pu hp).setOther (⟨gp, s, none⟩ : Addr) (.int .i64 (v : Int)) (by simp; omega)
                 have h3 := (hbel.trans (Below.mono hp hbel.size)).setCell (p := (⟨gp, s, none⟩ : Addr)) hgpw (.int .i64 (v : Int))
                 have h5 : ∀ e ∈ q.set s v, e ≤ (16 * i + (j + 1)) * 131072 := set_bound hqb (by omega) hvb
                 have h6 : (q.set s v).length = 34 := by rw [List.length_set, hql]
                 first | exact ⟨j + 1, q.set s v, by omega, by go_num, h6, HSET.out, h5, h1, h2, h3⟩ | ((repeat apply Exists.intro); exact ⟨⟨j + 1, q.set s v, by omega, by go_num, h6, HSET.out, h5, h1, h2, h3⟩, rfl⟩)
                case measure => simp [intOf]; omega
             · obtain rfl : j = 16 := by omega
               have hqv2 : leV q = leV (z.take (i+1)) * rv := by
                rw [hqv, List.take_of_length_le (by omega), ← HRV.out, HTI.out, ← HA.out, Nat.add_mul, Nat.mul_assoc]
               have hqb2 : ∀ d ∈ q, d ≤ 16 * (i + 1) * 131072 := fun d hd => by have := hqb d hd; omega
               have HQ2 := Lib.hid hqv2
               clear hqv hqv2
               go_wp2_with fail
               go_roundw
               case rel => first | exact ⟨i + 1, q, by omega, by go_num, hql, HQ2.out, hqb2, hq, hz, hbel⟩ | ((repeat apply Exists.intro); exact ⟨⟨i + 1, q, by omega, by go_num, hql, HQ2.out, hqb2, hq, hz, hbel⟩, rfl⟩)
               case measure => simp [intOf]; omega
          · obtain rfl : i = 18 := by omega
            rw [List.take_of_length_le (by omega), hZV] at hqv
            have hFo : Calls Tryz.prog 126 #[.slice (some ⟨gp, 0, none⟩) 34 34] wr (FoldPost 3 q wr) := by
             have h := refFold q gp 34 wr hq (fun d hd => by have := hqb d hd; omega) (by omega) (by omega)
             rw [hql] at h; exact h
            have hpst : leV q % polyP = pstep rv (leV xs) p := by rw [hqv, pstep, HPP.out]
            have HFO := Lib.hid hFo
            have HPST := Lib.hid hpst
            have hbs := hbel.size
            clear hFo hpst hqv hZV
            go_wp2_with (go_at_call 126; refine HFO.out.mono ?_; rintro e w6 ⟨o, g6, c6, rfl, hfo, hc6, hg6, hr6, hp6⟩)
            go_roundw
            case rel =>
             have h1 : polyF rv (leV o % polyP) (b.drop (at' + 16)) = tot := by rw [hfo.mod, HPST.out]; exact HPS.out
             have h2 := hbel.trans (Below.mono hp6 hbs)
             first | exact ⟨at' + 16, o, g6, c6, rfl, by go_num, by omega, hfo.len, hfo.small, hfo.lt, h1, hr6, by omega, h2⟩ | ((repeat apply Exists.intro); exact ⟨⟨at' + 16, o, g6, c6, rfl, by go_num, by omega, hfo.len, hfo.small, hfo.lt, h1, hr6, by omega, h2⟩, rfl⟩)
            case measure => simp [intOf]; omega
  · have hab' : decide ((at' : Int) < b.length) = false := by simp; omega
    rw [List.drop_of_length_le (by omega), polyF_nil] at hps
    obtain ⟨x0', hx0e⟩ : ∃ v, v = xs.getD 0 0 := ⟨_, rfl⟩
    have hx0l := getD_small hxs 0
    rw [← hx0e] at hx0l
    obtain ⟨v0, hv0⟩ : ∃ v, v = x0' + 5 := ⟨_, rfl⟩
    obtain ⟨mm, hmm⟩ : ∃ m, m = xs.set 0 v0 := ⟨_, rfl⟩
    have hmml : mm.length = 18 := by rw [hmm, List.length_set, hxl]
    have hmmv : leV mm = leV xs + 5 := by
     have := leV_set xs 0 5 (by omega)
     rw [← hx0e, ← hv0, ← hmm] at this; omega
    have hmmb : ∀ d ∈ mm, d ≤ 1099511627776 := by rw [hmm]; exact set_bound (b := 255) (fun d hd => by have := hxs d hd; omega) (by omega) (by omega)
    have hlast := last_mod (leV xs) hxlt
    rw [hps, ← hmmv] at hlast
    have hsx : xs.set 0 v0 = mm := hmm.symm
    have e1 : (x0' : Int) + 5 = v0 := by omega
    have e1w : IntKind.i64.wrap (v0 : Int) = v0 := by rw [IntKind.wrap_i64]; omega
    have hdx := hrx.cell'
    have hbw := hbel.size
    have hgl := hrx.lt
    have HX0 := Lib.hid hx0e
    have HDX := Lib.hid hdx
    have hfm : leV mm < 256 ^ mm.length := by rw [hmml, show (256 : Nat) ^ 18 = 2 ^ 144 by decide, hmmv]; omega
    have HFM := Lib.hid hfm
    clear hfm
    have HMV := Lib.hid hmmv
    have HSX := Lib.hid hsx
    have HPSS := Lib.hid hps
    clear hx0e hmm hdx hv0 hmmv hsx hps
    by_cases hV : 2 ^ 130 ≤ leV mm
    · rw [if_pos hV] at hlast
      have HLAST := Lib.hid hlast
      clear hlast
      go_wp2_with (first
       | (refine wpList_append_mine rfl (.const (.slice none 0 0)) (.tmp 91) 30 rfl wr.heap.size 3 ii (.int .i64 0) 1 8 Tryz.underlying30 hi hz0 hz1 hz2 rfl (by decide) (.slice none 0 0) 0 [] (by rfl) (World.ownsRow_nil _ _ _ _) ⟨g, 0, none⟩ 18 cap (ds xs) (by rfl) (by rw [ds_length]; omega) (by intro j u hj; have := HDX.out j (List.getElem?_eq_some_iff.1 hj).1; rw [show (⟨g, 0, none⟩ : Addr).add j = ⟨g, j, none⟩ by unfold Addr.add; split <;> simp_all, this]; exact hj) (ds_one xs) (by unfold maxLen; omega) (by omega) (Nat.le_refl _) ?_; intro v2 w2 hown2 hgrow2
          obtain ⟨gm, capm, rfl, hgm, hgm'⟩ := own_form hown2 (by omega)
          rw [List.nil_append] at hown2
          have hrm := Row.own hown2
          have hpu2 : Pu wr w2 := ⟨hgrow2.os, hgrow2.tape, hgrow2.output, hgrow2.size, fun j hj => hgrow2.block j hj (by simp [Value.ownBlock])⟩
          have cm := Row.dig hrm 0 (by omega)
          rw [← HX0.out] at cm
          have fm := hrm.frozen 0 (by rw [ds_length]; omega)
          have hrm2 := hrm.set 0 (.int .i64 (v0 : Int))
          rw [ds_set, HSX.out] at hrm2
          have hbel2 := (hbel.trans (Below.mono hpu2 hbw)).setCell (p := (⟨gm, 0, none⟩ : Addr)) (by simp; omega) (.int .i64 (v0 : Int))
          have hrx2 := (hrx.pu hpu2).setOther (⟨gm, 0, none⟩ : Addr) (.int .i64 (v0 : Int)) (by simp; omega)
          have hCm := refCarry mm gm capm _ hrm2 hmmb (by omega)
          rw [hmml] at hCm
          have hbs2 := hbel2.size
          have hgl2 := hrx2.lt)
       | (go_at_call 125; refine hCm.mono ?_; rintro e w4 ⟨o, g4, c4, rfl, ho4, hcar4, hg4, hr4, hp4⟩
          have hol4 : o.length = 18 := by have h9 := hcar4.most; have h8 := hcar4.fit HFM.out; omega
          rw [hol4]
          have hov4 : leV o = leV mm := hcar4.val
          have hos4 := hcar4.small
          have htd := top_digits2 hos4 (by omega) (by rw [hov4, HMV.out]; omega)
          have c16 := Row.dig hr4 16 (by omega)
          have c17 := Row.dig hr4 17 (by omega)
          generalize ho16 : o.getD 16 0 = o16 at c16 htd
          generalize ho17 : o.getD 17 0 = o17 at c17 htd
          have h17 : o17 = 0 := htd.1
          subst h17
          have h16 : (4 : Int) ≤ o16 := by have := (htd.2).2 (by rw [hov4]; exact hV); omega))
      have hrx4 := hrx2.pu hp4
      have hbel4 := hbel2.trans (Below.mono hp4 hbs2)
      obtain ⟨A, hAe⟩ : ∃ A, A = o := ⟨_, rfl⟩
      obtain ⟨gA, hgAe⟩ : ∃ gA, gA = g4 := ⟨_, rfl⟩
      obtain ⟨capA, hcapA⟩ : ∃ gA, gA = c4 := ⟨_, rfl⟩
      have hav : leV A % 2 ^ 128 = tot % 2 ^ 128 := by rw [hAe, hov4]; exact HLAST.out
      have HAV := Lib.hid hav
      have hAl : A.length = 18 := by rw [hAe]; exact hol4
      have hAs : ∀ d ∈ A, d < 256 := by rw [hAe]; exact hos4
      have hAlt : leV A < 2 ^ 131 := by rw [hAe, hov4, HMV.out]; omega
      have hgAw : w.heap.size ≤ gA := by omega
      have hA := hr4
      have hbelA := hbel4
      rw [← hAe, ← hgAe] at hA
      rw [← hgAe, ← hcapA]
      clear hAe hgAe hcapA hav hr4 hrx4 hbel4 hrx2 hbel2 hp4 hcar4 hov4 hos4 c16 c17 htd ho16 hCm
      have hgAl := hA.lt
      have hKl : ((key.drop 16).take 16).length = 16 := by simp; omega
      obtain ⟨K, hKe⟩ : ∃ K, K = (key.drop 16).take 16 := ⟨_, rfl⟩
      rw [← hKe] at hKl
      have hKg : ∀ k (h : k < 16), K[k]'(by omega) = key[16 + k]'(by omega) := by
       intro k h; simp only [hKe, List.getElem_take, List.getElem_drop]
      have HKE := Lib.hid hKe
      have HKG := Lib.hid hKg
      clear hKe hKg
      go_loopw [14] (fun kv wq => ∃ (k : Nat) (z : List Nat), k ≤ 16 ∧ kv = .int .i64 (k : Int) ∧ z.length = 18 ∧ leV z = leV A + leN (K.take k) ∧ (∀ d ∈ z, d ≤ 510) ∧ (∀ j, k ≤ j → z.getD j 0 = A.getD j 0) ∧ Row wq gA 3 (ds z) ∧ Below w.heap.size w wq) (fun kv _ => 16 - (intOf kv).toNat)
      case atStart => exact ⟨0, A, by omega, rfl, hAl, by simp [leN], fun d hd => by have := hAs d hd; omega, fun j _ => rfl, hA, hbelA⟩
      case round =>
       clear hA hbelA
       obtain ⟨k, z, hk16, rfl, hzl, hzv, hzb, hzs, hz, hbel⟩ := hrel
       by_cases hkn : k < 16
       · have hkx : (k : Int) < 16 := by omega
         have hzk := hzs k (Nat.le_refl k)
         have hxk := getD_small hAs k
         obtain ⟨zk, hzke⟩ : ∃ v, v = z.getD k 0 := ⟨_, rfl⟩
         rw [← hzke] at hzk
         obtain ⟨s, hs⟩ : ∃ s, s = 16 + k := ⟨_, rfl⟩
         have hs32n : s < key.length := by omega
         obtain ⟨c, hc⟩ : ∃ c, key[s]'hs32n = c := ⟨_, rfl⟩
         have hcl := c.toNat_lt
         obtain ⟨cn, hcn⟩ : ∃ v, v = c.toNat := ⟨_, rfl⟩
         have hts := leN_take_succ K k (by omega)
         have hkg := HKG.out k hkn
         simp only [← hs, hc] at hkg
         rw [hkg, ← hcn] at hts
         obtain ⟨v, hv⟩ : ∃ v, v = zk + cn := ⟨_, rfl⟩
         have hset := leV_set z k cn (by omega)
         rw [← hzke, ← hv, hzv, Nat.add_assoc, ← hts] at hset
         have e0 : (c.toNat : Int) = cn := by omega
         have e0w : IntKind.i64.wrap (cn : Int) = cn := by rw [IntKind.wrap_i64]; omega
         have e1 : (zk : Int) + cn = v := by omega
         have e1w : IntKind.i64.wrap (v : Int) = v := by rw [IntKind.wrap_i64]; omega
         have e3 : (16 : Int) + k = s := by omega
         have e3w : IntKind.i64.wrap (s : Int) = s := by rw [IntKind.wrap_i64]; omega
         have hs0 : (0 : Int) ≤ s := by omega
         have hs32 : (s : Int) < key.length := by omega
         have hs32' : (s : Int) < 32 := by omega
         have hk0 : (0 : Int) ≤ k := by omega
         have hk18 : (k : Int) < 18 := by omega
         have hvb : v ≤ 510 := by omega
         have HSET := Lib.hid hset
         have HZK := Lib.hid hzke
         have HZS := Lib.hid hzs
         have HSE := Lib.hid hs
         clear hset hzke hzs hts hv hzk hzv hcn hkg hs
         go_wp2_with fail
         apply region_last (n := 13) (hn := by kernel_rfl) (hlast := rfl) (hU := by kernel_rfl) (Φs := (Is _ :: Is _ :: Is _ :: Is _ :: Is _ :: Is _ :: Is _ :: Is _ :: Is _ :: Is _ :: Is _ :: Is _ :: Is _ :: [])) (hm := by kernel_rfl) (hE := by kernel_rfl) (hD := by kernel_rfl) (hsize := by kernel_rfl)
         case hop =>
          refine ⟨?_, ?_, ?_, ?_, ?_, ?_, ?_, ?_, ?_, ?_, ?_, ?_, ?_, trivial⟩
          · intro a' w' hs hp he
            have e6 := hs 6 (by kernel_rfl)
            try simp [Is, Region.binds] at he
            exact op_v
          · intro a' w' hs hp he
            have e14 := hs 14 (by kernel_rfl)
            try simp [Is, Region.binds] at he
            exact op_v
          · intro a' w' hs hp he
            have e6 := hs 6 (by kernel_rfl)
            try simp [Is, Region.binds] at he
            exact op_v
          · intro a' w' hs hp he
            have e14 := hs 14 (by kernel_rfl)
            try simp [Is, Region.binds] at he
            exact op_v
          · intro a' w' hs hp he
            try simp [Is, Region.binds] at he
            exact op_v
          · intro a' w' hs hp he
            try simp [Is, Region.binds] at he
            have c := Row.dig (hz.pu hp) k (by omega); rw [← HZK.out] at c; exact op_val rfl (wanted_none rfl) (by first | (go_simp; done) | (go_simp; rfl)) rfl (Pu.refl _)
          · intro a' w' hs hp he
            have e0 := hs 0 (by kernel_rfl)
            try simp [Is, Region.binds] at he
            exact op_v
          · intro a' w' hs hp he
            have e14 := hs 14 (by kernel_rfl)
            try simp [Is, Region.binds] at he
            exact op_v
          · intro a' w' hs hp he
            try simp [Is, Region.binds] at he
            exact op_v
          · intro a' w' hs hp he
            try simp [Is, Region.binds] at he
            exact op_v
          · intro a' w' hs hp he
            try simp [Is, Region.binds] at he
            exact op_v
          · intro a' w' hs hp he
            try simp [Is, Region.binds] at he
            exact op_v
          · intro a' w' hs hp he
            try simp [Is, Region.binds] at he
            exact op_v
         case hend =>
          intro a' w' hdef hsz hs hp hall
          obtain ⟨r0, r1, r2, r3, r4, r5, r6, r7, r8, r9, r10, r11, r12, -⟩ := hall
          have hA := agree_done (agree_step (agree_step (agree_step (agree_step (agree_step (agree_step (agree_step (agree_step (agree_step (agree_step (agree_step (agree_step (agree_step (agree_init [121, 122, 123, 124, 125, 126, 127, 128, 129, 130, 131, 132, 133] hsz hs (by kernel_rfl)) r0) r1) r2) r3) r4) r5) r6) r7) r8) r9) r10) r11) r12)
          have ha := act_of hA hdef
          rw [ha]
          clear ha hA hs hsz hdef r0 r1 r2 r3 r4 r5 r6 r7 r8 r9 r10 r11 r12 
          (try simp only [List.setIfInBounds_toArray])
          (try dsimp only [List.set_cons_zero, List.set_cons_succ])
          (try simp only [Exit.then])
          have c := Row.dig (hz.pu hp) k (by omega); rw [← HZK.out] at c; have hf := (hz.pu hp).frozen k (by rw [ds_length]; omega)
          refine op_done rfl (wanted_none rfl) (by first | (go_simp; done) | (go_simp; rfl)) ?_
          (try simp only [Exit.inBlock, Exit.then])
          go_wp2_with fail
          go_roundw
          case rel =>
           have h1 := (hz.pu hp).set k (.int .i64 (v : Int))
           rw [ds_set] at h1
           have h3 := (hbel.trans (Below.mono hp hbel.size)).setCell (p := (⟨gA, k, none⟩ : Addr)) hgAw (.int .i64 (v : Int))
           have h5 : ∀ e ∈ z.set k v, e ≤ 510 := set_bound hzb (Nat.le_refl _) hvb
           have h6 : (z.set k v).length = 18 := by rw [List.length_set, hzl]
           have h7 : ∀ j, k + 1 ≤ j → (z.set k v).getD j 0 = A.getD j 0 := fun j hj => by rw [lgetD_set_ne _ _ _ _ (by omega)]; exact HZS.out j (by omega)
           first | exact ⟨k + 1, z.set k v, by omega, by go_num, h6, HSET.out, h5, h7, h1, h3⟩ | ((repeat apply Exists.intro); exact ⟨⟨k + 1, z.set k v, by omega, by go_num, h6, HSET.out, h5, h7, h1, h3⟩, rfl⟩)
          case measure => simp [intOf]; omega
       · obtain rfl : k = 16 := by omega
         rw [List.take_of_length_le (by omega)] at hzv
         have hKlt := leN_lt K
         rw [hKl] at hKlt
         have e256 : (256 : Nat) ^ 16 = 2 ^ 128 := by decide
         have e18 : (256 : Nat) ^ 18 = 2 ^ 144 := by decide
         rw [e256] at hKlt
         have hCz : Calls Tryz.prog 125 #[.slice (some ⟨gA, 0, none⟩) 18 capA] wr (CarryPost 3 z wr) := by
          have h := refCarry z gA capA wr hz (fun d hd => by have := hzb d hd; omega) (by omega)
          rw [hzl] at h; exact h
         have hfit : leV z < 256 ^ z.length := by rw [hzl, e18, hzv]; omega
         have hmk16 : ∀ w, (Instr.makeSlice 51 (.int .i64 16) (.int .i64 16)).run Tryz.prog w = .ok (.slice (some ⟨w.heap.size, 0, none⟩) 16 16) (w.alloc (.cells (madeCells #[.int .u8 0] 16) 5)) := run_make_row' (P := Tryz.prog) 51 5 (.int .u8 0) 1 Tryz.underlying51 infoB rfl .i64 .i64 16 (by decide) (by decide)
         have hbs := hbel.size
         have HCZ := Lib.hid hCz
         have HZV := Lib.hid hzv
         have HFIT := Lib.hid hfit
         clear hCz hzv hfit hzs
         go_wp2_with (go_at_call 125; refine HCZ.out.mono ?_; rintro e w6 ⟨o, g6, c6, rfl, ho6, hcar6, hg6, hr6, hp6⟩
                      have hol : o.length = 18 := by have h9 := hcar6.fit HFIT.out; omega
                      rw [hol])
         have hov := hcar6.val
         have hos := hcar6.small
         have hbel6 := hbel.trans (Below.mono hp6 hbs)
         have hgO : w.heap.size ≤ w6.heap.size := hbel6.size
         have hne6 : g6 ≠ w6.heap.size := by have := hr6.lt; omega
         have hrO : Row (w6.alloc (.cells (madeCells #[.int .u8 0] 16) 5)) w6.heap.size 5 (cells (outTo o 0)) := Row.newAt _ _ _ _ rfl (by rw [show outTo o 0 = List.replicate 16 0 by simp [outTo]]; kernel_rfl)
         have hr6' := hr6.alloc (.cells (madeCells #[.int .u8 0] 16) 5)
         have hbel7 := Pu.alloc hbel6 (.cells (madeCells #[.int .u8 0] 16) 5)
         obtain ⟨gO, hgOe⟩ : ∃ g, g = w6.heap.size := ⟨_, rfl⟩
         rw [← hgOe] at hgO hne6 hrO ⊢
         have HOV := Lib.hid hov
         have HOS := Lib.hid hos
         have HCAR := Lib.hid hcar6
         clear hgOe hr6 hbel6 hp6 hov hos hcar6 hz hbel
         go_loopw [16] (fun kv wq => ∃ k : Nat, k ≤ 16 ∧ kv = .int .i64 (k : Int) ∧ Row wq gO 5 (cells (outTo o k)) ∧ Row wq g6 3 (ds o) ∧ Below w.heap.size w wq) (fun kv _ => 16 - (intOf kv).toNat)
         case atStart => exact ⟨0, by omega, rfl, hrO, hr6', hbel7⟩
         case round =>
          clear hrO hr6' hbel7
          obtain ⟨k, hk16, rfl, hrO, hr6, hbel⟩ := hrel
          by_cases hkn : k < 16
          · have hkx : (k : Int) < 16 := by omega
            have hdk := getD_small HOS.out k
            have hcd := Row.dig hr6 k (by omega)
            have hol2 := outTo_length o k hk16 (by omega)
            have hset := outTo_set o k hkn (by omega)
            obtain ⟨d, hd⟩ : ∃ d, d = o.getD k 0 := ⟨_, rfl⟩
            rw [← hd] at hdk hcd hset
            obtain ⟨c, hc⟩ : ∃ c : UInt8, c = UInt8.ofNat d := ⟨_, rfl⟩
            have hcd2 : (d : Int) = c.toNat := by rw [hc]; simp; omega
            rw [← hc] at hset
            have e1w : IntKind.u8.wrap (c.toNat : Int) = c.toNat := by have := c.toNat_lt; rw [IntKind.wrap_u8]; omega
            rw [hcd2] at hcd
            obtain ⟨v0, hv0⟩ : ∃ v0, wr.cell? ⟨gO, k, none⟩ = some v0 := ⟨_, hrO.cell k (by rw [cells_length]; omega)⟩
            have hfz := hrO.frozen k (by rw [cells_length]; omega)
            have hk0 : (0 : Int) ≤ k := by omega
            have hk18 : (k : Int) < 18 := by omega
            have HSET := Lib.hid hset
            clear hset hd hc hcd2
            go_wp2_with fail
            go_roundw
            case rel =>
             have h1 := hrO.set k (.int .u8 (c.toNat : Int))
             rw [cells_set, HSET.out] at h1
             exact ⟨k + 1, by omega, by go_num, h1, hr6.setOther _ _ (by simp; omega), hbel.setCell (by simp; omega) _⟩
            case measure => simp [intOf]; omega
          · obtain rfl : k = 16 := by omega
            have hol2 := outTo_length o 16 (by omega) (by omega)
            have hres : tagL key b = outTo o 16 := by
             have e256 : (256 : Nat) ^ 16 = 2 ^ 128 := by decide
             rw [HF.out, outTo_all, ← putL_take HOS.out 16 (by omega), ← HKE.out, ← putL_mod (leV o) 16, e256, HOV.out, HZV.out]
             congr 1
             have := HAV.out
             rw [Nat.add_mod, ← this, ← Nat.add_mod]
            obtain ⟨res, hre⟩ : ∃ l, l = outTo o 16 := ⟨_, rfl⟩
            rw [← hre] at hrO hres hol2
            have hcv := fun cap => Row.conv (P := Tryz.prog) (cap := cap) (n := 16) (l := res) 51 9 hrO hol2.symm Tryz.underlying51 Tryz.underlying5 Tryz.underlying9
            have HRES := Lib.hid hres
            clear hre hres
            go_wp2_with fail
            go_ret
            exact ⟨by rw [HRES.out]; rfl, hbel⟩
    · rw [if_neg hV] at hlast
      have HLAST := Lib.hid hlast
      clear hlast
      go_wp2_with (first
       | (refine wpList_append_mine rfl (.const (.slice none 0 0)) (.tmp 91) 30 rfl wr.heap.size 3 ii (.int .i64 0) 1 8 Tryz.underlying30 hi hz0 hz1 hz2 rfl (by decide) (.slice none 0 0) 0 [] (by rfl) (World.ownsRow_nil _ _ _ _) ⟨g, 0, none⟩ 18 cap (ds xs) (by rfl) (by rw [ds_length]; omega) (by intro j u hj; have := HDX.out j (List.getElem?_eq_some_iff.1 hj).1; rw [show (⟨g, 0, none⟩ : Addr).add j = ⟨g, j, none⟩ by unfold Addr.add; split <;> simp_all, this]; exact hj) (ds_one xs) (by unfold maxLen; omega) (by omega) (Nat.le_refl _) ?_; intro v2 w2 hown2 hgrow2
          obtain ⟨gm, capm, rfl, hgm, hgm'⟩ := own_form hown2 (by omega)
          rw [List.nil_append] at hown2
          have hrm := Row.own hown2
          have hpu2 : Pu wr w2 := ⟨hgrow2.os, hgrow2.tape, hgrow2.output, hgrow2.size, fun j hj => hgrow2.block j hj (by simp [Value.ownBlock])⟩
          have cm := Row.dig hrm 0 (by omega)
          rw [← HX0.out] at cm
          have fm := hrm.frozen 0 (by rw [ds_length]; omega)
          have hrm2 := hrm.set 0 (.int .i64 (v0 : Int))
          rw [ds_set, HSX.out] at hrm2
          have hbel2 := (hbel.trans (Below.mono hpu2 hbw)).setCell (p := (⟨gm, 0, none⟩ : Addr)) (by simp; omega) (.int .i64 (v0 : Int))
          have hrx2 := (hrx.pu hpu2).setOther (⟨gm, 0, none⟩ : Addr) (.int .i64 (v0 : Int)) (by simp; omega)
          have hCm := refCarry mm gm capm _ hrm2 hmmb (by omega)
          rw [hmml] at hCm
          have hbs2 := hbel2.size
          have hgl2 := hrx2.lt)
       | (go_at_call 125; refine hCm.mono ?_; rintro e w4 ⟨o, g4, c4, rfl, ho4, hcar4, hg4, hr4, hp4⟩
          have hol4 : o.length = 18 := by have h9 := hcar4.most; have h8 := hcar4.fit HFM.out; omega
          rw [hol4]
          have hov4 : leV o = leV mm := hcar4.val
          have hos4 := hcar4.small
          have htd := top_digits2 hos4 (by omega) (by rw [hov4, HMV.out]; omega)
          have c16 := Row.dig hr4 16 (by omega)
          have c17 := Row.dig hr4 17 (by omega)
          generalize ho16 : o.getD 16 0 = o16 at c16 htd
          generalize ho17 : o.getD 17 0 = o17 at c17 htd
          have h17 : o17 = 0 := htd.1
          subst h17
          have h16 : decide ((4 : Int) ≤ o16) = false := by have := htd.2; have : ¬ 4 ≤ o16 := fun h => hV (by rw [← hov4]; exact this.1 h); simp; omega))
      have hrx4 := hrx2.pu hp4
      have hbel4 := hbel2.trans (Below.mono hp4 hbs2)
      obtain ⟨A, hAe⟩ : ∃ A, A = xs := ⟨_, rfl⟩
      obtain ⟨gA, hgAe⟩ : ∃ gA, gA = g := ⟨_, rfl⟩
      obtain ⟨capA, hcapA⟩ : ∃ gA, gA = cap := ⟨_, rfl⟩
      have hav : leV A % 2 ^ 128 = tot % 2 ^ 128 := by rw [hAe]; exact HLAST.out
      have HAV := Lib.hid hav
      have hAl : A.length = 18 := by rw [hAe]; exact hxl
      have hAs : ∀ d ∈ A, d < 256 := by rw [hAe]; exact hxs
      have hAlt : leV A < 2 ^ 131 := by rw [hAe]; omega
      have hgAw : w.heap.size ≤ gA := by omega
      have hA := hrx4
      have hbelA := hbel4
      rw [← hAe, ← hgAe] at hA
      rw [← hgAe, ← hcapA]
      clear hAe hgAe hcapA hav hr4 hrx4 hbel4 hrx2 hbel2 hp4 hcar4 hov4 hos4 c16 c17 htd ho16 hCm
      have hgAl := hA.lt
      have hKl : ((key.drop 16).take 16).length = 16 := by simp; omega
      obtain ⟨K, hKe⟩ : ∃ K, K = (key.drop 16).take 16 := ⟨_, rfl⟩
      rw [← hKe] at hKl
      have hKg : ∀ k (h : k < 16), K[k]'(by omega) = key[16 + k]'(by omega) := by
       intro k h; simp only [hKe, List.getElem_take, List.getElem_drop]
      have HKE := Lib.hid hKe
      have HKG := Lib.hid hKg
      clear hKe hKg
      go_loopw [14] (fun kv wq => ∃ (k : Nat) (z : List Nat), k ≤ 16 ∧ kv = .int .i64 (k : Int) ∧ z.length = 18 ∧ leV z = leV A + leN (K.take k) ∧ (∀ d ∈ z, d ≤ 510) ∧ (∀ j, k ≤ j → z.getD j 0 = A.getD j 0) ∧ Row wq gA 3 (ds z) ∧ Below w.heap.size w wq) (fun kv _ => 16 - (intOf kv).toNat)
      case atStart => exact ⟨0, A, by omega, rfl, hAl, by simp [leN], fun d hd => by have := hAs d hd; omega, fun j _ => rfl, hA, hbelA⟩
      case round =>
       clear hA hbelA
       obtain ⟨k, z, hk16, rfl, hzl, hzv, hzb, hzs, hz, hbel⟩ := hrel
       by_cases hkn : k < 16
       · have hkx : (k : Int) < 16 := by omega
         have hzk := hzs k (Nat.le_refl k)
         have hxk := getD_small hAs k
         obtain ⟨zk, hzke⟩ : ∃ v, v = z.getD k 0 := ⟨_, rfl⟩
         rw [← hzke] at hzk
         obtain ⟨s, hs⟩ : ∃ s, s = 16 + k := ⟨_, rfl⟩
         have hs32n : s < key.length := by omega
         obtain ⟨c, hc⟩ : ∃ c, key[s]'hs32n = c := ⟨_, rfl⟩
         have hcl := c.toNat_lt
         obtain ⟨cn, hcn⟩ : ∃ v, v = c.toNat := ⟨_, rfl⟩
         have hts := leN_take_succ K k (by omega)
         have hkg := HKG.out k hkn
         simp only [← hs, hc] at hkg
         rw [hkg, ← hcn] at hts
         obtain ⟨v, hv⟩ : ∃ v, v = zk + cn := ⟨_, rfl⟩
         have hset := leV_set z k cn (by omega)
         rw [← hzke, ← hv, hzv, Nat.add_assoc, ← hts] at hset
         have e0 : (c.toNat : Int) = cn := by omega
         have e0w : IntKind.i64.wrap (cn : Int) = cn := by rw [IntKind.wrap_i64]; omega
         have e1 : (zk : Int) + cn = v := by omega
         have e1w : IntKind.i64.wrap (v : Int) = v := by rw [IntKind.wrap_i64]; omega
         have e3 : (16 : Int) + k = s := by omega
         have e3w : IntKind.i64.wrap (s : Int) = s := by rw [IntKind.wrap_i64]; omega
         have hs0 : (0 : Int) ≤ s := by omega
         have hs32 : (s : Int) < key.length := by omega
         have hs32' : (s : Int) < 32 := by omega
         have hk0 : (0 : Int) ≤ k := by omega
         have hk18 : (k : Int) < 18 := by omega
         have hvb : v ≤ 510 := by omega
         have HSET := Lib.hid hset
         have HZK := Lib.hid hzke
         have HZS := Lib.hid hzs
         have HSE := Lib.hid hs
         clear hset hzke hzs hts hv hzk hzv hcn hkg hs
         go_wp2_with fail
         apply region_last (n := 13) (hn := by kernel_rfl) (hlast := rfl) (hU := by kernel_rfl) (Φs := (Is _ :: Is _ :: Is _ :: Is _ :: Is _ :: Is _ :: Is _ :: Is _ :: Is _ :: Is _ :: Is _ :: Is _ :: Is _ :: [])) (hm := by kernel_rfl) (hE := by kernel_rfl) (hD := by kernel_rfl) (hsize := by kernel_rfl)
         case hop =>
          refine ⟨?_, ?_, ?_, ?_, ?_, ?_, ?_, ?_, ?_, ?_, ?_, ?_, ?_, trivial⟩
          · intro a' w' hs hp he
            have e6 := hs 6 (by kernel_rfl)
            try simp [Is, Region.binds] at he
            exact op_v
          · intro a' w' hs hp he
            have e14 := hs 14 (by kernel_rfl)
            try simp [Is, Region.binds] at he
            exact op_v
          · intro a' w' hs hp he
            have e6 := hs 6 (by kernel_rfl)
            try simp [Is, Region.binds] at he
            exact op_v
          · intro a' w' hs hp he
            have e14 := hs 14 (by kernel_rfl)
            try simp [Is, Region.binds] at he
            exact op_v
          · intro a' w' hs hp he
            try simp [Is, Region.binds] at he
            exact op_v
          · intro a' w' hs hp he
            try simp [Is, Region.binds] at he
            have c := Row.dig (hz.pu hp) k (by omega); rw [← HZK.out] at c; exact op_val rfl (wanted_none rfl) (by first | (go_simp; done) | (go_simp; rfl)) rfl (Pu.refl _)
          · intro a' w' hs hp he
            have e0 := hs 0 (by kernel_rfl)
            try simp [Is, Region.binds] at he
            exact op_v
          · intro a' w' hs hp he
            have e14 := hs 14 (by kernel_rfl)
            try simp [Is, Region.binds] at he
            exact op_v
          · intro a' w' hs hp he
            try simp [Is, Region.binds] at he
            exact op_v
          · intro a' w' hs hp he
            try simp [Is, Region.binds] at he
            exact op_v
          · intro a' w' hs hp he
            try simp [Is, Region.binds] at he
            exact op_v
          · intro a' w' hs hp he
            try simp [Is, Region.binds] at he
            exact op_v
          · intro a' w' hs hp he
            try simp [Is, Region.binds] at he
            exact op_v
         case hend =>
          intro a' w' hdef hsz hs hp hall
          obtain ⟨r0, r1, r2, r3, r4, r5, r6, r7, r8, r9, r10, r11, r12, -⟩ := hall
          have hA := agree_done (agree_step (agree_step (agree_step (agree_step (agree_step (agree_step (agree_step (agree_step (agree_step (agree_step (agree_step (agree_step (agree_step (agree_init [121, 122, 123, 124, 125, 126, 127, 128, 129, 130, 131, 132, 133] hsz hs (by kernel_rfl)) r0) r1) r2) r3) r4) r5) r6) r7) r8) r9) r10) r11) r12)
          have ha := act_of hA hdef
          rw [ha]
          clear ha hA hs hsz hdef r0 r1 r2 r3 r4 r5 r6 r7 r8 r9 r10 r11 r12 
          (try simp only [List.setIfInBounds_toArray])
          (try dsimp only [List.set_cons_zero, List.set_cons_succ])
          (try simp only [Exit.then])
          have c := Row.dig (hz.pu hp) k (by omega); rw [← HZK.out] at c; have hf := (hz.pu hp).frozen k (by rw [ds_length]; omega)
          refine op_done rfl (wanted_none rfl) (by first | (go_simp; done) | (go_simp; rfl)) ?_
          (try simp only [Exit.inBlock, Exit.then])
          go_wp2_with fail
          go_roundw
          case rel =>
           have h1 := (hz.pu hp).set k (.int .i64 (v : Int))
           rw [ds_set] at h1
           have h3 := (hbel.trans (Below.mono hp hbel.size)).setCell (p := (⟨gA, k, none⟩ : Addr)) hgAw (.int .i64 (v : Int))
           have h5 : ∀ e ∈ z.set k v, e ≤ 510 := set_bound hzb (Nat.le_refl _) hvb
           have h6 : (z.set k v).length = 18 := by rw [List.length_set, hzl]
           have h7 : ∀ j, k + 1 ≤ j → (z.set k v).getD j 0 = A.getD j 0 := fun j hj => by rw [lgetD_set_ne _ _ _ _ (by omega)]; exact HZS.out j (by omega)
           first | exact ⟨k + 1, z.set k v, by omega, by go_num, h6, HSET.out, h5, h7, h1, h3⟩ | ((repeat apply Exists.intro); exact ⟨⟨k + 1, z.set k v, by omega, by go_num, h6, HSET.out, h5, h7, h1, h3⟩, rfl⟩)
          case measure => simp [intOf]; omega
       · obtain rfl : k = 16 := by omega
         rw [List.take_of_length_le (by omega)] at hzv
         have hKlt := leN_lt K
         rw [hKl] at hKlt
         have e256 : (256 : Nat) ^ 16 = 2 ^ 128 := by decide
         have e18 : (256 : Nat) ^ 18 = 2 ^ 144 := by decide
         rw [e256] at hKlt
         have hCz : Calls Tryz.prog 125 #[.slice (some ⟨gA, 0, none⟩) 18 capA] wr (CarryPost 3 z wr) := by
          have h := refCarry z gA capA wr hz (fun d hd => by have := hzb d hd; omega) (by omega)
          rw [hzl] at h; exact h
         have hfit : leV z < 256 ^ z.length := by rw [hzl, e18, hzv]; omega
         have hmk16 : ∀ w, (Instr.makeSlice 51 (.int .i64 16) (.int .i64 16)).run Tryz.prog w = .ok (.slice (some ⟨w.heap.size, 0, none⟩) 16 16) (w.alloc (.cells (madeCells #[.int .u8 0] 16) 5)) := run_make_row' (P := Tryz.prog) 51 5 (.int .u8 0) 1 Tryz.underlying51 infoB rfl .i64 .i64 16 (by decide) (by decide)
         have hbs := hbel.size
         have HCZ := Lib.hid hCz
         have HZV := Lib.hid hzv
         have HFIT := Lib.hid hfit
         clear hCz hzv hfit hzs
         go_wp2_with (go_at_call 125; refine HCZ.out.mono ?_; rintro e w6 ⟨o, g6, c6, rfl, ho6, hcar6, hg6, hr6, hp6⟩
                      have hol : o.length = 18 := by have h9 := hcar6.fit HFIT.out; omega
                      rw [hol])
         have hov := hcar6.val
         have hos := hcar6.small
         have hbel6 := hbel.trans (Below.mono hp6 hbs)
         have hgO : w.heap.size ≤ w6.heap.size := hbel6.size
         have hne6 : g6 ≠ w6.heap.size := by have := hr6.lt; omega
         have hrO : Row (w6.alloc (.cells (madeCells #[.int .u8 0] 16) 5)) w6.heap.size 5 (cells (outTo o 0)) := Row.newAt _ _ _ _ rfl (by rw [show outTo o 0 = List.replicate 16 0 by simp [outTo]]; kernel_rfl)
         have hr6' := hr6.alloc (.cells (madeCells #[.int .u8 0] 16) 5)
         have hbel7 := Pu.alloc hbel6 (.cells (madeCells #[.int .u8 0] 16) 5)
         obtain ⟨gO, hgOe⟩ : ∃ g, g = w6.heap.size := ⟨_, rfl⟩
         rw [← hgOe] at hgO hne6 hrO ⊢
         have HOV := Lib.hid hov
         have HOS := Lib.hid hos
         have HCAR := Lib.hid hcar6
         clear hgOe hr6 hbel6 hp6 hov hos hcar6 hz hbel
         go_loopw [16] (fun kv wq => ∃ k : Nat, k ≤ 16 ∧ kv = .int .i64 (k : Int) ∧ Row wq gO 5 (cells (outTo o k)) ∧ Row wq g6 3 (ds o) ∧ Below w.heap.size w wq) (fun kv _ => 16 - (intOf kv).toNat)
         case atStart => exact ⟨0, by omega, rfl, hrO, hr6', hbel7⟩
         case round =>
          clear hrO hr6' hbel7
          obtain ⟨k, hk16, rfl, hrO, hr6, hbel⟩ := hrel
          by_cases hkn : k < 16
          · have hkx : (k : Int) < 16 := by omega
            have hdk := getD_small HOS.out k
            have hcd := Row.dig hr6 k (by omega)
            have hol2 := outTo_length o k hk16 (by omega)
            have hset := outTo_set o k hkn (by omega)
            obtain ⟨d, hd⟩ : ∃ d, d = o.getD k 0 := ⟨_, rfl⟩
            rw [← hd] at hdk hcd hset
            obtain ⟨c, hc⟩ : ∃ c : UInt8, c = UInt8.ofNat d := ⟨_, rfl⟩
            have hcd2 : (d : Int) = c.toNat := by rw [hc]; simp; omega
            rw [← hc] at hset
            have e1w : IntKind.u8.wrap (c.toNat : Int) = c.toNat := by have := c.toNat_lt; rw [IntKind.wrap_u8]; omega
            rw [hcd2] at hcd
            obtain ⟨v0, hv0⟩ : ∃ v0, wr.cell? ⟨gO, k, none⟩ = some v0 := ⟨_, hrO.cell k (by rw [cells_length]; omega)⟩
            have hfz := hrO.frozen k (by rw [cells_length]; omega)
            have hk0 : (0 : Int) ≤ k := by omega
            have hk18 : (k : Int) < 18 := by omega
            have HSET := Lib.hid hset
            clear hset hd hc hcd2
            go_wp2_with fail
            go_roundw
            case rel =>
             have h1 := hrO.set k (.int .u8 (c.toNat : Int))
             rw [cells_set, HSET.out] at h1
             exact ⟨k + 1, by omega, by go_num, h1, hr6.setOther _ _ (by simp; omega), hbel.setCell (by simp; omega) _⟩
            case measure => simp [intOf]; omega
          · obtain rfl : k = 16 := by omega
            have hol2 := outTo_length o 16 (by omega) (by omega)
            have hres : tagL key b = outTo o 16 := by
             have e256 : (256 : Nat) ^ 16 = 2 ^ 128 := by decide
             rw [HF.out, outTo_all, ← putL_take HOS.out 16 (by omega), ← HKE.out, ← putL_mod (leV o) 16, e256, HOV.out, HZV.out]
             congr 1
             have := HAV.out
             rw [Nat.add_mod, ← this, ← Nat.add_mod]
            obtain ⟨res, hre⟩ : ∃ l, l = outTo o 16 := ⟨_, rfl⟩
            rw [← hre] at hrO hres hol2
            have hcv := fun cap => Row.conv (P := Tryz.prog) (cap := cap) (n := 16) (l := res) 51 9 hrO hol2.symm Tryz.underlying51 Tryz.underlying5 Tryz.underlying9
            have HRES := Lib.hid hres
            clear hre hres
            go_wp2_with fail
            go_ret
            exact ⟨by rw [HRES.out]; rfl, hbel⟩
end Go.Proofs.YtoakccknimoogaaGreat
