/- The first half of a key, without some bits: package onetime's. -/
import Derived.Test.YtdjbhbefghihcaaLimb3
set_option linter.unusedSimpArgs false
set_option linter.unusedVariables false
namespace Go.Proofs.Ytdjbhbefghihcaa
open Go.RowKit Go.Esc
theorem clampF_no (key : Bs) (h : key.length ≠ 32) (w : World) :
    Calls Try.prog 146 #[S key] w fun e w' => e = .returned (.tuple #[S [], .bool false]) ∧ w' = w := by
  have h1 : ((key.length : Int) == 32) = false := by simp; omega
  have h2 : ¬ ((key.length : Int) = 32) := by omega
  go_enter Try.func146, Try.ntmps146
  go_wp2_with fail
  go_ret2
  exact ⟨rfl, rfl⟩
set_option maxRecDepth 100000 in
set_option maxHeartbeats 3200000 in
theorem clampF (key : Bs) (h : key.length = 32) (w : World) :
    Calls Try.prog 146 #[S key] w fun e w' => e = .returned (.tuple #[S (clampL key), .bool true]) ∧ Pu w w' := by
  have hz := clampTo_zero key (by omega)
  obtain ⟨kk, hkk⟩ : ∃ l, l = key.take 16 := ⟨_, rfl⟩
  have hkl : kk.length = 16 := by rw [hkk]; simp; omega
  have HZ := Lib.hid hz
  have HKK := Lib.hid hkk
  have hkk' : key.take 16 = kk := hkk.symm
  clear hz hkk
  go_enter Try.func146, Try.ntmps146
  go_wp2_with (refine wpList_bytes _ rfl (.tmp 10) 9 27 5 rfl kk (by first | rfl | simp [Act.eval]) Try.underlying9 Try.underlying27 Try.underlying5 ?_; intro w1 cap hrow hpu hcap)
  have hb0 : Below w.heap.size w w1 := hpu
  rw [HKK.out, ← HZ.out] at hrow
  clear hpu hcap
  go_loopw [14] (fun i wr => ∃ k : Nat, k ≤ 16 ∧ i = .int .i64 (k : Int) ∧ Row wr w.heap.size 5 (cells (clampTo key k)) ∧ Below w.heap.size w wr) (fun i _ => 16 - (intOf i).toNat)
  case atStart => exact ⟨0, by omega, rfl, hrow, hb0⟩
  case round =>
    clear hrow hb0
    obtain ⟨k, hk, rfl, hrow, hbel⟩ := hrel
    by_cases hlt : k < 16
    · rcases (by omega : k = 0 ∨ k = 1 ∨ k = 2 ∨ k = 3 ∨ k = 4 ∨ k = 5 ∨ k = 6 ∨ k = 7 ∨ k = 8 ∨ k = 9 ∨ k = 10 ∨ k = 11 ∨ k = 12 ∨ k = 13 ∨ k = 14 ∨ k = 15) with q0 | q1 | q2 | q3 | q4 | q5 | q6 | q7 | q8 | q9 | q10 | q11 | q12 | q13 | q14 | q15
      · skip
        have hsame := clampTo_same key k hlt (by subst q0; rfl)
        rw [hsame] at hrow
        subst q0
        go_wp2_with fail
        go_roundw
        case rel => exact ⟨0 + 1, by omega, by go_num, hrow, hbel⟩
        case measure => simp [intOf]
      · skip
        have hsame := clampTo_same key k hlt (by subst q1; rfl)
        rw [hsame] at hrow
        subst q1
        go_wp2_with fail
        go_roundw
        case rel => exact ⟨1 + 1, by omega, by go_num, hrow, hbel⟩
        case measure => simp [intOf]
      · skip
        have hsame := clampTo_same key k hlt (by subst q2; rfl)
        rw [hsame] at hrow
        subst q2
        go_wp2_with fail
        go_roundw
        case rel => exact ⟨2 + 1, by omega, by go_num, hrow, hbel⟩
        case measure => simp [intOf]
      · skip
        have hc1 := hrow.byte k (by rw [clampTo_length]; exact hlt)
        rw [clampTo_get key k hlt] at hc1
        have hf := hrow.frozen k (by rw [cells_length, clampTo_length]; omega)
        have hset := clampTo_set key k hlt
        have hcb : clampB k (key.getD k 0) = key.getD k 0 &&& 15 := by simp only [clampB]; simp [q3]
        rw [hcb] at hset
        obtain ⟨c, hc⟩ : ∃ c, c = key.getD k 0 := ⟨_, rfl⟩
        obtain ⟨v, hv⟩ : ∃ v, v = c &&& 15 := ⟨_, rfl⟩
        have hand : Go.bits .and .u8 (c.toNat : Int) 15 = (v.toNat : Int) := by rw [hv]; exact and8 c 15
        rw [← hc, ← hv] at hset
        rw [← hc] at hc1
        have HSET := Lib.hid hset
        clear hset hcb hc hv
        subst q3
        go_wp2_with fail
        go_roundw
        case rel =>
          have h1 := hrow.set 3 (.int .u8 (v.toNat : Int))
          rw [cells_set, HSET.out] at h1
          exact ⟨3 + 1, by omega, by go_num, h1, hbel.setCell (by simp) _⟩
        case measure => simp [intOf]
      · skip
        have hc1 := hrow.byte k (by rw [clampTo_length]; exact hlt)
        rw [clampTo_get key k hlt] at hc1
        have hf := hrow.frozen k (by rw [cells_length, clampTo_length]; omega)
        have hset := clampTo_set key k hlt
        have hcb : clampB k (key.getD k 0) = key.getD k 0 &&& 252 := by simp only [clampB]; simp [q4]
        rw [hcb] at hset
        obtain ⟨c, hc⟩ : ∃ c, c = key.getD k 0 := ⟨_, rfl⟩
        obtain ⟨v, hv⟩ : ∃ v, v = c &&& 252 := ⟨_, rfl⟩
        have hand : Go.bits .and .u8 (c.toNat : Int) 252 = (v.toNat : Int) := by rw [hv]; exact and8 c 252
        rw [← hc, ← hv] at hset
        rw [← hc] at hc1
        have HSET := Lib.hid hset
        clear hset hcb hc hv
        subst q4
        go_wp2_with fail
        go_roundw
        case rel =>
          have h1 := hrow.set 4 (.int .u8 (v.toNat : Int))
          rw [cells_set, HSET.out] at h1
          exact ⟨4 + 1, by omega, by go_num, h1, hbel.setCell (by simp) _⟩
        case measure => simp [intOf]
      · skip
        have hsame := clampTo_same key k hlt (by subst q5; rfl)
        rw [hsame] at hrow
        subst q5
        go_wp2_with fail
        go_roundw
        case rel => exact ⟨5 + 1, by omega, by go_num, hrow, hbel⟩
        case measure => simp [intOf]
      · skip
        have hsame := clampTo_same key k hlt (by subst q6; rfl)
        rw [hsame] at hrow
        subst q6
        go_wp2_with fail
        go_roundw
        case rel => exact ⟨6 + 1, by omega, by go_num, hrow, hbel⟩
        case measure => simp [intOf]
      · skip
        have hc1 := hrow.byte k (by rw [clampTo_length]; exact hlt)
        rw [clampTo_get key k hlt] at hc1
        have hf := hrow.frozen k (by rw [cells_length, clampTo_length]; omega)
        have hset := clampTo_set key k hlt
        have hcb : clampB k (key.getD k 0) = key.getD k 0 &&& 15 := by simp only [clampB]; simp [q7]
        rw [hcb] at hset
        obtain ⟨c, hc⟩ : ∃ c, c = key.getD k 0 := ⟨_, rfl⟩
        obtain ⟨v, hv⟩ : ∃ v, v = c &&& 15 := ⟨_, rfl⟩
        have hand : Go.bits .and .u8 (c.toNat : Int) 15 = (v.toNat : Int) := by rw [hv]; exact and8 c 15
        rw [← hc, ← hv] at hset
        rw [← hc] at hc1
        have HSET := Lib.hid hset
        clear hset hcb hc hv
        subst q7
        go_wp2_with fail
        go_roundw
        case rel =>
          have h1 := hrow.set 7 (.int .u8 (v.toNat : Int))
          rw [cells_set, HSET.out] at h1
          exact ⟨7 + 1, by omega, by go_num, h1, hbel.setCell (by simp) _⟩
        case measure => simp [intOf]
      · skip
        have hc1 := hrow.byte k (by rw [clampTo_length]; exact hlt)
        rw [clampTo_get key k hlt] at hc1
        have hf := hrow.frozen k (by rw [cells_length, clampTo_length]; omega)
        have hset := clampTo_set key k hlt
        have hcb : clampB k (key.getD k 0) = key.getD k 0 &&& 252 := by simp only [clampB]; simp [q8]
        rw [hcb] at hset
        obtain ⟨c, hc⟩ : ∃ c, c = key.getD k 0 := ⟨_, rfl⟩
        obtain ⟨v, hv⟩ : ∃ v, v = c &&& 252 := ⟨_, rfl⟩
        have hand : Go.bits .and .u8 (c.toNat : Int) 252 = (v.toNat : Int) := by rw [hv]; exact and8 c 252
        rw [← hc, ← hv] at hset
        rw [← hc] at hc1
        have HSET := Lib.hid hset
        clear hset hcb hc hv
        subst q8
        go_wp2_with fail
        go_roundw
        case rel =>
          have h1 := hrow.set 8 (.int .u8 (v.toNat : Int))
          rw [cells_set, HSET.out] at h1
          exact ⟨8 + 1, by omega, by go_num, h1, hbel.setCell (by simp) _⟩
        case measure => simp [intOf]
      · skip
        have hsame := clampTo_same key k hlt (by subst q9; rfl)
        rw [hsame] at hrow
        subst q9
        go_wp2_with fail
        go_roundw
        case rel => exact ⟨9 + 1, by omega, by go_num, hrow, hbel⟩
        case measure => simp [intOf]
      · skip
        have hsame := clampTo_same key k hlt (by subst q10; rfl)
        rw [hsame] at hrow
        subst q10
        go_wp2_with fail
        go_roundw
        case rel => exact ⟨10 + 1, by omega, by go_num, hrow, hbel⟩
        case measure => simp [intOf]
      · skip
        have hc1 := hrow.byte k (by rw [clampTo_length]; exact hlt)
        rw [clampTo_get key k hlt] at hc1
        have hf := hrow.frozen k (by rw [cells_length, clampTo_length]; omega)
        have hset := clampTo_set key k hlt
        have hcb : clampB k (key.getD k 0) = key.getD k 0 &&& 15 := by simp only [clampB]; simp [q11]
        rw [hcb] at hset
        obtain ⟨c, hc⟩ : ∃ c, c = key.getD k 0 := ⟨_, rfl⟩
        obtain ⟨v, hv⟩ : ∃ v, v = c &&& 15 := ⟨_, rfl⟩
        have hand : Go.bits .and .u8 (c.toNat : Int) 15 = (v.toNat : Int) := by rw [hv]; exact and8 c 15
        rw [← hc, ← hv] at hset
        rw [← hc] at hc1
        have HSET := Lib.hid hset
        clear hset hcb hc hv
        subst q11
        go_wp2_with fail
        go_roundw
        case rel =>
          have h1 := hrow.set 11 (.int .u8 (v.toNat : Int))
          rw [cells_set, HSET.out] at h1
          exact ⟨11 + 1, by omega, by go_num, h1, hbel.setCell (by simp) _⟩
        case measure => simp [intOf]
      · skip
        have hc1 := hrow.byte k (by rw [clampTo_length]; exact hlt)
        rw [clampTo_get key k hlt] at hc1
        have hf := hrow.frozen k (by rw [cells_length, clampTo_length]; omega)
        have hset := clampTo_set key k hlt
        have hcb : clampB k (key.getD k 0) = key.getD k 0 &&& 252 := by simp only [clampB]; simp [q12]
        rw [hcb] at hset
        obtain ⟨c, hc⟩ : ∃ c, c = key.getD k 0 := ⟨_, rfl⟩
        obtain ⟨v, hv⟩ : ∃ v, v = c &&& 252 := ⟨_, rfl⟩
        have hand : Go.bits .and .u8 (c.toNat : Int) 252 = (v.toNat : Int) := by rw [hv]; exact and8 c 252
        rw [← hc, ← hv] at hset
        rw [← hc] at hc1
        have HSET := Lib.hid hset
        clear hset hcb hc hv
        subst q12
        go_wp2_with fail
        go_roundw
        case rel =>
          have h1 := hrow.set 12 (.int .u8 (v.toNat : Int))
          rw [cells_set, HSET.out] at h1
          exact ⟨12 + 1, by omega, by go_num, h1, hbel.setCell (by simp) _⟩
        case measure => simp [intOf]
      · skip
        have hsame := clampTo_same key k hlt (by subst q13; rfl)
        rw [hsame] at hrow
        subst q13
        go_wp2_with fail
        go_roundw
        case rel => exact ⟨13 + 1, by omega, by go_num, hrow, hbel⟩
        case measure => simp [intOf]
      · skip
        have hsame := clampTo_same key k hlt (by subst q14; rfl)
        rw [hsame] at hrow
        subst q14
        go_wp2_with fail
        go_roundw
        case rel => exact ⟨14 + 1, by omega, by go_num, hrow, hbel⟩
        case measure => simp [intOf]
      · skip
        have hc1 := hrow.byte k (by rw [clampTo_length]; exact hlt)
        rw [clampTo_get key k hlt] at hc1
        have hf := hrow.frozen k (by rw [cells_length, clampTo_length]; omega)
        have hset := clampTo_set key k hlt
        have hcb : clampB k (key.getD k 0) = key.getD k 0 &&& 15 := by simp only [clampB]; simp [q15]
        rw [hcb] at hset
        obtain ⟨c, hc⟩ : ∃ c, c = key.getD k 0 := ⟨_, rfl⟩
        obtain ⟨v, hv⟩ : ∃ v, v = c &&& 15 := ⟨_, rfl⟩
        have hand : Go.bits .and .u8 (c.toNat : Int) 15 = (v.toNat : Int) := by rw [hv]; exact and8 c 15
        rw [← hc, ← hv] at hset
        rw [← hc] at hc1
        have HSET := Lib.hid hset
        clear hset hcb hc hv
        subst q15
        go_wp2_with fail
        go_roundw
        case rel =>
          have h1 := hrow.set 15 (.int .u8 (v.toNat : Int))
          rw [cells_set, HSET.out] at h1
          exact ⟨15 + 1, by omega, by go_num, h1, hbel.setCell (by simp) _⟩
        case measure => simp [intOf]
    · obtain rfl : k = 16 := by omega
      rw [clampTo_all] at hrow
      obtain ⟨z, hzz⟩ : ∃ z, z = clampL key := ⟨_, rfl⟩
      have hzl : z.length = 16 := by rw [hzz]; simp [clampL]
      rw [← hzz] at hrow
      have HZZ := Lib.hid hzz
      have hcv := fun cap => Row.conv (P := Try.prog) (cap := cap) (n := 16) (l := z) 27 9 hrow hzl.symm Try.underlying27 Try.underlying5 Try.underlying9
      clear hzz
      go_wp2_with fail
      go_ret2
      exact ⟨by rw [HZZ.out]; rfl, hbel⟩
end Go.Proofs.Ytdjbhbefghihcaa
