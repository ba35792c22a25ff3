/- The first half of a key, without some bits: package onetime's. The code of bytes under a key: package onetime's. -/
import Derived.Test.YtfbnaemnblannaaGreatT12
import Derived.Lib.SlBuf
import Derived.Shelf.Spec.BitsCarry
import Derived.Deep.OwnRows
set_option linter.unusedSimpArgs false
set_option linter.unusedVariables false
set_option linter.unusedSimpArgs false
set_option linter.unusedVariables false
namespace Go.Proofs.YtfbnaemnblannaaGreat
open Go.RowKit Go.Esc
theorem clampF_no (key : Bs) (h : key.length ≠ 32) (w : World) :
    Calls Tryz.prog 89 #[S key] w fun e w' => e = .returned (.tuple #[S [], .bool false]) ∧ w' = w := by
  have h1 : ((key.length : Int) == 32) = false := by simp; omega
  have h2 : ¬ ((key.length : Int) = 32) := by omega
  go_enter Tryz.func89, Tryz.ntmps89
  go_wp2_with fail
  go_ret2
  exact ⟨rfl, rfl⟩
set_option maxRecDepth 100000 in
set_option maxHeartbeats 3200000 in
theorem clampF (key : Bs) (h : key.length = 32) (w : World) :
    Calls Tryz.prog 89 #[S key] w fun e w' => e = .returned (.tuple #[S (clampL key), .bool true]) ∧ Pu w w' := by
  have hz := clampTo_zero key (by omega)
  obtain ⟨kk, hkk⟩ : ∃ l, l = key.take 16 := ⟨_, rfl⟩
  have hkl : kk.length = 16 := by rw [hkk]; simp; omega
  have HZ := Lib.hid hz
  have HKK := Lib.hid hkk
  have hkk' : key.take 16 = kk := hkk.symm
  clear hz hkk
  go_enter Tryz.func89, Tryz.ntmps89
  go_wp2_with (refine wpList_bytes _ rfl (.tmp 10) 9 31 5 rfl kk (by first | rfl | simp [Act.eval]) Tryz.underlying9 Tryz.underlying31 Tryz.underlying5 ?_; intro w1 cap hrow hpu hcap)
  have hb0 : Below w.heap.size w w1 := hpu
  rw [HKK.out, ← HZ.out] at hrow
  clear hpu hcap
  go_loopw [14] (fun i wr => ∃ k : Nat, k ≤ 16 ∧ i = .int .i64 (k : Int) ∧ Row wr w.heap.size 5 (cells (clampTo key k)) ∧ Below w.heap.size w wr) (fun i _ => 16 - (intOf i).toNat)
  case atStart => exact ⟨0, by omega, rfl, hrow, hb0⟩
  case round =>
    clear hrow hb0
    obtain ⟨k, hk, rfl, hrow, hbel⟩ := hrel
    by_cases hlt : k < 16
    · rcases (by omega : k = 0 ∨ k = 1 ∨ k = 2 ∨ k = 3 ∨ k = 4 ∨ k = 5 ∨ k = 6 ∨ k = 7 ∨ k = 8 ∨ k = 9 ∨ k = 10 ∨ k = 11 ∨ k = 12 ∨ k = 13 ∨ k = 14 ∨ k = 15) with q0 | q1 | q2 | q3 | q4 | q5 | q6 | q7 | q8 | q9 | q10 | q11 | q12 | q13 | q14 | q15
      · skip
        have hsame := clampTo_same key k hlt (by subst q0; rfl)
        rw [hsame] at hrow
        subst q0
        go_wp2_with fail
        go_roundw
        case rel => exact ⟨0 + 1, by omega, by go_num, hrow, hbel⟩
        case measure => simp [intOf]
      · skip
        have hsame := clampTo_same key k hlt (by subst q1; rfl)
        rw [hsame] at hrow
        subst q1
        go_wp2_with fail
        go_roundw
        case rel => exact ⟨1 + 1, by omega, by go_num, hrow, hbel⟩
        case measure => simp [intOf]
      · skip
        have hsame := clampTo_same key k hlt (by subst q2; rfl)
        rw [hsame] at hrow
        subst q2
        go_wp2_with fail
        go_roundw
        case rel => exact ⟨2 + 1, by omega, by go_num, hrow, hbel⟩
        case measure => simp [intOf]
      · skip
        have hc1 := hrow.byte k (by rw [clampTo_length]; exact hlt)
        rw [clampTo_get key k hlt] at hc1
        have hf := hrow.frozen k (by rw [cells_length, clampTo_length]; omega)
        have hset := clampTo_set key k hlt
        have hcb : clampB k (key.getD k 0) = key.getD k 0 &&& 15 := by simp only [clampB]; simp [q3]
        rw [hcb] at hset
        obtain ⟨c, hc⟩ : ∃ c, c = key.getD k 0 := ⟨_, rfl⟩
        obtain ⟨v, hv⟩ : ∃ v, v = c &&& 15 := ⟨_, rfl⟩
        have hand : Go.bits .and .u8 (c.toNat : Int) 15 = (v.toNat : Int) := by rw [hv]; exact and8 c 15
        rw [← hc, ← hv] at hset
        rw [← hc] at hc1
        have HSET := Lib.hid hset
        clear hset hcb hc hv
        subst q3
        go_wp2_with fail
        go_roundw
        case rel =>
          have h1 := hrow.set 3 (.int .u8 (v.toNat : Int))
          rw [cells_set, HSET.out] at h1
          exact ⟨3 + 1, by omega, by go_num, h1, hbel.setCell (by simp) _⟩
        case measure => simp [intOf]
      · skip
        have hc1 := hrow.byte k (by rw [clampTo_length]; exact hlt)
        rw [clampTo_get key k hlt] at hc1
        have hf := hrow.frozen k (by rw [cells_length, clampTo_length]; omega)
        have hset := clampTo_set key k hlt
        have hcb : clampB k (key.getD k 0) = key.getD k 0 &&& 252 := by simp only [clampB]; simp [q4]
        rw [hcb] at hset
        obtain ⟨c, hc⟩ : ∃ c, c = key.getD k 0 := ⟨_, rfl⟩
        obtain ⟨v, hv⟩ : ∃ v, v = c &&& 252 := ⟨_, rfl⟩
        have hand : Go.bits .and .u8 (c.toNat : Int) 252 = (v.toNat : Int) := by rw [hv]; exact and8 c 252
        rw [← hc, ← hv] at hset
        rw [← hc] at hc1
        have HSET := Lib.hid hset
        clear hset hcb hc hv
        subst q4
        go_wp2_with fail
        go_roundw
        case rel =>
          have h1 := hrow.set 4 (.int .u8 (v.toNat : Int))
          rw [cells_set, HSET.out] at h1
          exact ⟨4 + 1, by omega, by go_num, h1, hbel.setCell (by simp) _⟩
        case measure => simp [intOf]
      · skip
        have hsame := clampTo_same key k hlt (by subst q5; rfl)
        rw [hsame] at hrow
        subst q5
        go_wp2_with fail
        go_roundw
        case rel => exact ⟨5 + 1, by omega, by go_num, hrow, hbel⟩
        case measure => simp [intOf]
      · skip
        have hsame := clampTo_same key k hlt (by subst q6; rfl)
        rw [hsame] at hrow
        subst q6
        go_wp2_with fail
        go_roundw
        case rel => exact ⟨6 + 1, by omega, by go_num, hrow, hbel⟩
        case measure => simp [intOf]
      · skip
        have hc1 := hrow.byte k (by rw [clampTo_length]; exact hlt)
        rw [clampTo_get key k hlt] at hc1
        have hf := hrow.frozen k (by rw [cells_length, clampTo_length]; omega)
        have hset := clampTo_set key k hlt
        have hcb : clampB k (key.getD k 0) = key.getD k 0 &&& 15 := by simp only [clampB]; simp [q7]
        rw [hcb] at hset
        obtain ⟨c, hc⟩ : ∃ c, c = key.getD k 0 := ⟨_, rfl⟩
        obtain ⟨v, hv⟩ : ∃ v, v = c &&& 15 := ⟨_, rfl⟩
        have hand : Go.bits .and .u8 (c.toNat : Int) 15 = (v.toNat : Int) := by rw [hv]; exact and8 c 15
        rw [← hc, ← hv] at hset
        rw [← hc] at hc1
        have HSET := Lib.hid hset
        clear hset hcb hc hv
        subst q7
        go_wp2_with fail
        go_roundw
        case rel =>
          have h1 := hrow.set 7 (.int .u8 (v.toNat : Int))
          rw [cells_set, HSET.out] at h1
          exact ⟨7 + 1, by omega, by go_num, h1, hbel.setCell (by simp) _⟩
        case measure => simp [intOf]
      · skip
        have hc1 := hrow.byte k (by rw [clampTo_length]; exact hlt)
        rw [clampTo_get key k hlt] at hc1
        have hf := hrow.frozen k (by rw [cells_length, clampTo_length]; omega)
        have hset := clampTo_set key k hlt
        have hcb : clampB k (key.getD k 0) = key.getD k 0 &&& 252 := by simp only [clampB]; simp [q8]
        rw [hcb] at hset
        obtain ⟨c, hc⟩ : ∃ c, c = key.getD k 0 := ⟨_, rfl⟩
        obtain ⟨v, hv⟩ : ∃ v, v = c &&& 252 := ⟨_, rfl⟩
        have hand : Go.bits .and .u8 (c.toNat : Int) 252 = (v.toNat : Int) := by rw [hv]; exact and8 c 252
        rw [← hc, ← hv] at hset
        rw [← hc] at hc1
        have HSET := Lib.hid hset
        clear hset hcb hc hv
        subst q8
        go_wp2_with fail
        go_roundw
        case rel =>
          have h1 := hrow.set 8 (.int .u8 (v.toNat : Int))
          rw [cells_set, HSET.out] at h1
          exact ⟨8 + 1, by omega, by go_num, h1, hbel.setCell (by simp) _⟩
        case measure => simp [intOf]
      · skip
        have hsame := clampTo_same key k hlt (by subst q9; rfl)
        rw [hsame] at hrow
        subst q9
        go_wp2_with fail
        go_roundw
        case rel => exact ⟨9 + 1, by omega, by go_num, hrow, hbel⟩
        case measure => simp [intOf]
      · skip
        have hsame := clampTo_same key k hlt (by subst q10; rfl)
        rw [hsame] at hrow
        subst q10
        go_wp2_with fail
        go_roundw
        case rel => exact ⟨10 + 1, by omega, by go_num, hrow, hbel⟩
        case measure => simp [intOf]
      · skip
        have hc1 := hrow.byte k (by rw [clampTo_length]; exact hlt)
        rw [clampTo_get key k hlt] at hc1
        have hf := hrow.frozen k (by rw [cells_length, clampTo_length]; omega)
        have hset := clampTo_set key k hlt
        have hcb : clampB k (key.getD k 0) = key.getD k 0 &&& 15 := by simp only [clampB]; simp [q11]
        rw [hcb] at hset
        obtain ⟨c, hc⟩ : ∃ c, c = key.getD k 0 := ⟨_, rfl⟩
        obtain ⟨v, hv⟩ : ∃ v, v = c &&& 15 := ⟨_, rfl⟩
        have hand : Go.bits .and .u8 (c.toNat : Int) 15 = (v.toNat : Int) := by rw [hv]; exact and8 c 15
        rw [← hc, ← hv] at hset
        rw [← hc] at hc1
        have HSET := Lib.hid hset
        clear hset hcb hc hv
        subst q11
        go_wp2_with fail
        go_roundw
        case rel =>
          have h1 := hrow.set 11 (.int .u8 (v.toNat : Int))
          rw [cells_set, HSET.out] at h1
          exact ⟨11 + 1, by omega, by go_num, h1, hbel.setCell (by simp) _⟩
        case measure => simp [intOf]
      · skip
        have hc1 := hrow.byte k (by rw [clampTo_length]; exact hlt)
        rw [clampTo_get key k hlt] at hc1
        have hf := hrow.frozen k (by rw [cells_length, clampTo_length]; omega)
        have hset := clampTo_set key k hlt
        have hcb : clampB k (key.getD k 0) = key.getD k 0 &&& 252 := by simp only [clampB]; simp [q12]
        rw [hcb] at hset
        obtain ⟨c, hc⟩ : ∃ c, c = key.getD k 0 := ⟨_, rfl⟩
        obtain ⟨v, hv⟩ : ∃ v, v = c &&& 252 := ⟨_, rfl⟩
        have hand : Go.bits .and .u8 (c.toNat : Int) 252 = (v.toNat : Int) := by rw [hv]; exact and8 c 252
        rw [← hc, ← hv] at hset
        rw [← hc] at hc1
        have HSET := Lib.hid hset
        clear hset hcb hc hv
        subst q12
        go_wp2_with fail
        go_roundw
        case rel =>
          have h1 := hrow.set 12 (.int .u8 (v.toNat : Int))
          rw [cells_set, HSET.out] at h1
          exact ⟨12 + 1, by omega, by go_num, h1, hbel.setCell (by simp) _⟩
        case measure => simp [intOf]
      · skip
        have hsame := clampTo_same key k hlt (by subst q13; rfl)
        rw [hsame] at hrow
        subst q13
        go_wp2_with fail
        go_roundw
        case rel => exact ⟨13 + 1, by omega, by go_num, hrow, hbel⟩
        case measure => simp [intOf]
      · skip
        have hsame := clampTo_same key k hlt (by subst q14; rfl)
        rw [hsame] at hrow
        subst q14
        go_wp2_with fail
        go_roundw
        case rel => exact ⟨14 + 1, by omega, by go_num, hrow, hbel⟩
        case measure => simp [intOf]
      · skip
        have hc1 := hrow.byte k (by rw [clampTo_length]; exact hlt)
        rw [clampTo_get key k hlt] at hc1
        have hf := hrow.frozen k (by rw [cells_length, clampTo_length]; omega)
        have hset := clampTo_set key k hlt
        have hcb : clampB k (key.getD k 0) = key.getD k 0 &&& 15 := by simp only [clampB]; simp [q15]
        rw [hcb] at hset
        obtain ⟨c, hc⟩ : ∃ c, c = key.getD k 0 := ⟨_, rfl⟩
        obtain ⟨v, hv⟩ : ∃ v, v = c &&& 15 := ⟨_, rfl⟩
        have hand : Go.bits .and .u8 (c.toNat : Int) 15 = (v.toNat : Int) := by rw [hv]; exact and8 c 15
        rw [← hc, ← hv] at hset
        rw [← hc] at hc1
        have HSET := Lib.hid hset
        clear hset hcb hc hv
        subst q15
        go_wp2_with fail
        go_roundw
        case rel =>
          have h1 := hrow.set 15 (.int .u8 (v.toNat : Int))
          rw [cells_set, HSET.out] at h1
          exact ⟨15 + 1, by omega, by go_num, h1, hbel.setCell (by simp) _⟩
        case measure => simp [intOf]
    · obtain rfl : k = 16 := by omega
      rw [clampTo_all] at hrow
      obtain ⟨z, hzz⟩ : ∃ z, z = clampL key := ⟨_, rfl⟩
      have hzl : z.length = 16 := by rw [hzz]; simp [clampL]
      rw [← hzz] at hrow
      have HZZ := Lib.hid hzz
      have hcv := fun cap => Row.conv (P := Tryz.prog) (cap := cap) (n := 16) (l := z) 31 9 hrow hzl.symm Tryz.underlying31 Tryz.underlying5 Tryz.underlying9
      clear hzz
      go_wp2_with fail
      go_ret2
      exact ⟨by rw [HZZ.out]; rfl, hbel⟩
end Go.Proofs.YtfbnaemnblannaaGreat
namespace Go.Esc
open Go Go.RowKit
/-- A pointer to a new row. -/
def IsPtr (base : Nat) (e : TypeId) (xs : List Value) : Value → World → Prop := fun v w => ∃ g, v = .pointer (some ⟨g, 0, none⟩) ∧ Row w g e xs ∧ base ≤ g
instance (base : Nat) (e : TypeId) (xs : List Value) : Stable (IsPtr base e xs) := ⟨fun _ _ _ h hp => by obtain ⟨g, hv, hr, hb⟩ := h; exact ⟨g, hv, hr.pu hp, hb⟩⟩
theorem run_firstCells_str {P : Program} (w : World) (size n : Nat) (l : Bs) : (Builtin.firstCells size n (S l)).run P w = .ok (cells (l.take n)).toArray w := by
  have : (bs (l.take n)).data.map (fun b => Value.int .u8 b.toNat) = (cells (l.take n)).toArray := by
    simp [bs, cells]; rfl
  simp [Builtin.firstCells, this]
/-- 'copy' of a text over the beginning of a row. -/
theorem wpList_copy_str {P : Program} {w : World} {ops : Array Oper} {rest : List Oper} {o : Oper} {a : Act} {Q : Exit → Act → World → Prop} (hgd : o.guard = none) (d s : Operand) (t t' : TypeId)
    (ho : o.op = .call { callee := .builtin .copy, args := #[d, s], argTypes := #[t, t'] }) (e : TypeId) (ht : P.underlying t = some (.slice e)) (hsz : (P.info? e).map (·.size) = some 1)
    (g n cap : Nat) (l : Bs) (hd : a.eval d = .slice (some ⟨g, 0, none⟩) n cap) (hs : a.eval s = S l) {xs : List Value} (hr : Row w g e xs) (hn : n ≤ xs.length)
    (h : ∀ w', Row w' g e (Esc.splice xs 0 (cells (l.take n))) → Chg g w w' → wpList P ops Q rest (a.put o.dst (goInt (Nat.min l.length n))) w') : wpList P ops Q (o :: rest) a w := by
  have hlen : (cells (l.take (Nat.min l.length n))).length ≤ n := by simp only [cells_length, List.length_take]; exact Nat.le_trans (Nat.min_le_left _ _) (Nat.min_le_right _ _)
  have htk : l.take (Nat.min l.length n) = l.take n := by
    rcases Nat.le_total l.length n with h1 | h1
    · rw [show Nat.min l.length n = l.length from Nat.min_eq_left h1, List.take_length, List.take_of_length_le h1]
    · rw [show Nat.min l.length n = n from Nat.min_eq_right h1]
  have hst := run_storeCells_cells (P := P) g 0 (cells (l.take (Nat.min l.length n))) 0 w (fun j hj => by simp only [Nat.zero_add]; rw [hr.cell j (by omega)]; rfl) (fun j hj => by simp only [Nat.zero_add]; exact hr.frozen j (by omega))
    (fun v hv => by simp only [cells, List.mem_map] at hv; obtain ⟨c, _, rfl⟩ := hv; rfl)
  have hcr := Row.setCells (cells (l.take (Nat.min l.length n))) 0 w xs hr
  have hch := Chg.setCells g (cells (l.take (Nat.min l.length n))) 0 w
  rw [htk] at hcr hst hch
  have hrun : (Builtin.copy_ #[t, t'] o.type #[.slice (some ⟨g, 0, none⟩) n cap, S l]).run P w = .ok (goInt (Nat.min l.length n)) (w.setCells g 0 (cells (l.take n))) := by
    cases hq : P.info? e with
    | none => simp [hq] at hsz
    | some i =>
      have hs : i.size = 1 := by simpa [hq] using hsz
      have hfc := run_firstCells_str (P := P) w 1 (Nat.min l.length n) l
      rw [htk] at hfc
      simp [Builtin.copy_, run_underlying ht, sizeOf, typeInfo, hq, hs, Builtin.lenOf, Sem.run_bind, hfc, hst]
  exact Lib.wpList_copy_run w hgd d s t t' ho _ _ hd hs hrun (h _ hcr hch)
/-- a last block, filled up -/
def padBl (p : Bs) : Bs := p ++ [1] ++ List.replicate (16 - p.length) 0
theorem padBl_length (p : Bs) (h : p.length ≤ 16) : (padBl p).length = 17 := by simp [padBl]; omega
theorem padBl_leN (p : Bs) : leN (padBl p) = leN (p ++ [1]) := leN_pad _ _
theorem padBl_top (p : Bs) (h : p.length ≤ 16) : ((padBl p)[16]'(by rw [padBl_length p h]; omega)).toNat ≤ 1 := by
  by_cases h16 : p.length = 16
  · have : (padBl p)[16]'(by rw [padBl_length p h]; omega) = 1 := by
      simp only [padBl]
      rw [List.getElem_append_left (by simp; omega), List.getElem_append_right (by omega)]
      simp
    rw [this]; decide
  · have : (padBl p)[16]'(by rw [padBl_length p h]; omega) = 0 := by
      simp only [padBl]
      rw [List.getElem_append_right (by simp; omega)]
      simp
    rw [this]; decide
theorem leN_17 (l : Bs) (h : l.length = 17) : leN l = leN (l.take 8) + 2 ^ 64 * leN ((l.take 16).drop 8) + 2 ^ 128 * (l[16]'(by omega)).toNat := by
  have h1 := leN_take_drop l 16 (by omega)
  have h2 := leN_take_drop (l.take 16) 8 (by simp; omega)
  rw [List.take_take, show min 8 16 = 8 from rfl] at h2
  have h3 : l.drop 16 = [l[16]'(by omega)] := by
    rw [List.drop_eq_getElem_cons (by omega), List.drop_of_length_le (by omega)]
  rw [h3] at h1
  have e1 : (256 : Nat) ^ 16 = 2 ^ 128 := by decide
  have e2 : (256 : Nat) ^ 8 = 2 ^ 64 := by decide
  rw [e1] at h1
  rw [e2] at h2
  simp only [leN] at h1
  omega
theorem splice_pad (p : Bs) (h : p.length ≤ 16) : (Esc.splice (cells (List.replicate 17 0)) 0 (cells (p.take 17))).set p.length (.int .u8 1) = cells (padBl p) := by
  rw [List.take_of_length_le (by omega), splice_eq _ _ _ (by simp [cells_length]; omega)]
  obtain ⟨j, hj⟩ : ∃ j, 16 - p.length = j := ⟨_, rfl⟩
  have e1 : (cells (List.replicate 17 0)).drop (0 + (cells p).length) = cells (0 :: List.replicate j 0) := by
    simp only [cells, List.length_map, Nat.zero_add, ← List.map_drop, List.drop_replicate]
    rw [show 17 - p.length = j + 1 by omega, List.replicate_succ]
  rw [e1, List.take_zero, List.nil_append]
  have e2 : cells p ++ cells (0 :: List.replicate j 0) = cells (p ++ 0 :: List.replicate j 0) := by simp [cells]
  rw [e2, show Value.int .u8 1 = .int .u8 (((1 : UInt8).toNat : Nat) : Int) from rfl, cells_set]
  congr 1
  rw [List.set_append_right _ _ (by omega), Nat.sub_self, List.set_cons_zero, padBl, hj]
  simp
end Go.Esc
namespace Go.Proofs.YtfbnaemnblannaaGreat
open Go.RowKit Go.Esc
theorem add64U (x y c : Nat) (hx : x < 18446744073709551616) (hy : y < 18446744073709551616) (hc : c ≤ 1) (w : World) :
    (callFunc 94 #[.int .u64 (x : Int), .int .u64 (y : Int), .int .u64 (c : Int)]).run Tryz.prog w =
      .ok (.value (.tuple #[.int .u64 (((x + y + c) % 18446744073709551616 : Nat) : Int), .int .u64 (((x + y + c) / 18446744073709551616 : Nat) : Int)])) w := by
  rw [run_callFunc_extern Tryz.func94 (by kernel_rfl) (by kernel_rfl) (by kernel_rfl) (e := add64Entry) (by kernel_rfl), run_add64 x y c (by omega) (by omega) (by omega) (by omega)]
  simp only [Result.andThen]
  congr 5 <;> omega
end Go.Proofs.YtfbnaemnblannaaGreat
