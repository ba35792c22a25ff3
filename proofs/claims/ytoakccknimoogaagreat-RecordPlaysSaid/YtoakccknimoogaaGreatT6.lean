/- Contracts of package pad. A part of a whole array. (*Digest).Sum. digest.Sum. Package mac. A slice of one byte as a text. Package derive. Package ratchet. Records, in plain Lean: sealed, opened, told in order. A store within a drawn region. -/
import Derived.Test.YtoakccknimoogaaGreatT5
import Derived.ChangeKeysEq
set_option linter.unusedSimpArgs false
set_option linter.unusedVariables false
set_option linter.unusedSimpArgs false
set_option linter.unusedVariables false
namespace Go.Proofs.YtoakccknimoogaaGreat
open Go.RowKit Go.Esc
theorem mkf (fn : Fn) (first cap : Array Value) (w : World) : (Instr.makeFunc fn first cap).run Tryz.prog w = .ok (.func fn first cap) w := rfl
set_option maxHeartbeats 800000 in
set_option maxRecDepth 100000 in
theorem sizes_made (b : Nat) (w : World) (h : Row w b 191 [.int .u32 0, .int .i32 0, .int .u32 0, .slice none 0 0]) :
 Calls Tryz.prog 135 #[.pointer (some ⟨b, 0, none⟩)] w fun e w' => ∃ g cap, e = .returned (.slice (some ⟨g, 0, none⟩) 4 cap) ∧ Below b w w' ∧ b < g ∧ Row w' g 3 (ints [32, 128, 512, 2048]) := by
 have hb := h.lt
 have hmf := mkf
 have hrun : ∀ (w1 : World), (callFunc 161 #[.pointer (some ⟨w.heap.size, 0, none⟩)]).run Tryz.prog w1 = .ok (.enter 161 #[.pointer (some ⟨w.heap.size, 0, none⟩)]) w1 := fun w1 => run_callFunc_body Tryz.func161 (by kernel_rfl) (by kernel_rfl) _ w1
 have ra : Row (w.alloc (.cells #[.pointer (some ⟨b, 0, none⟩)] 219)) b 191 _ := h.alloc _
 have rp : Row (w.alloc (.cells #[.pointer (some ⟨b, 0, none⟩)] 219)) w.heap.size 219 [.pointer (some ⟨b, 0, none⟩)] := Row.new _ _ _
 have hdo := once_first b 0 161 #[.pointer (some ⟨w.heap.size, 0, none⟩)] _ (fun w2 => Below b w w2 ∧ Row w2 w.heap.size 219 [.pointer (some ⟨b, 0, none⟩)] ∧ ∃ v, Row w2 b 191 [.int .u32 0, .int .i32 1, .int .u32 0, v] ∧ w2.ownsRow (w.heap.size + 1) 3 1 v 4 (ints [32, 128, 512, 2048])) hrun (ra.cell 0 (by simp)) (ra.cell 1 (by simp)) (ra.frozen 1 (by simp)) (by
  refine (sizes_fill b w.heap.size hb _ (ra.set 1 (.int .i32 1)) (rp.setOther _ _ (by simp; omega))).mono ?_
  rintro e w2 ⟨rfl, hbel, hp2, v, hr, hown⟩
  have hown' : w2.ownsRow (w.heap.size + 1) 3 1 v 4 (ints [32, 128, 512, 2048]) := by simpa using hown
  exact ⟨rfl, ⟨(((Below.refl b w).alloc (by omega) _).setCell (Nat.le_refl _) _).trans hbel, hp2, v, hr, hown'⟩, hr.cell 0 (by simp), hr.frozen 0 (by simp), hr.cell 1 (by simp), hr.frozen 1 (by simp)⟩)
 have hd2 := hdo.mono (R' := fun e w' => e = .returned (.tuple #[]) ∧ Below b w w' ∧ w'.cell? ⟨w.heap.size, 0, none⟩ = some (.pointer (some ⟨b, 0, none⟩)) ∧ ∃ g cap, w'.cell? ⟨b, 3, none⟩ = some (.slice (some ⟨g, 0, none⟩) 4 cap) ∧ b < g ∧ Row w' g 3 (ints [32, 128, 512, 2048])) (by
  rintro e w' ⟨rfl, w2, ⟨hb2, hp2, v, hr2, hown2⟩, rfl⟩
  obtain ⟨g, cap, rfl, hg1, hg2⟩ := own_form hown2 (by decide)
  have r1 := (hr2.drew.set 0 (.int .u32 1)).set 1 (.int .i32 0)
  refine ⟨rfl, ((hb2.drew).setCell (Nat.le_refl _) _).setCell (Nat.le_refl _) _, ?_, g, cap, r1.cell 3 (by simp), by omega, ?_⟩
  · exact ((hp2.drew.setOther ⟨b, 0, none⟩ _ (by simp; omega)).setOther ⟨b, 1, none⟩ _ (by simp; omega)).cell 0 (by simp)
  · exact ((Row.own hown2).drew.setOther ⟨b, 0, none⟩ _ (by simp; omega)).setOther ⟨b, 1, none⟩ _ (by simp; omega))
 have HD := Lib.hid hd2
 clear hdo hrun hd2
 go_enter Tryz.func135, Tryz.ntmps135
 go_wp2_with (go_at_call 72; refine HD.out.mono ?_; rintro e w1 ⟨rfl, hb2, c0, g, cap, c3, hg, hrow⟩)
 go_ret
 exact ⟨g, cap, rfl, hb2, hg, hrow⟩
theorem sizes (w : World) :
 Calls Tryz.prog 104 #[] w fun e w' => ∃ g cap, e = .returned (.slice (some ⟨g, 0, none⟩) 4 cap) ∧ Pu w w' ∧ Row w' g 3 (ints [32, 128, 512, 2048]) := by
 have hm := sizes_made w.heap.size (w.alloc (.cells #[.int .u32 0, .int .i32 0, .int .u32 0, .slice none 0 0] 191)) (Row.new _ _ _)
 have HM := Lib.hid hm
 clear hm
 go_enter Tryz.func104, Tryz.ntmps104
 go_wp2_with (go_at_call 135; refine HM.out.mono ?_; rintro e w1 ⟨g, cap, rfl, hb, hg, hrow⟩)
 go_ret
 exact ⟨g, cap, rfl, ((Below.refl _ _).alloc (Nat.le_refl _) _).trans hb, hrow⟩
/-- The size for n bytes. -/
def padSize (n : Int) : Option Nat := if n < 0 then none else if n ≤ 30 then some 32 else if n ≤ 126 then some 128 else if n ≤ 510 then some 512 else if n ≤ 2046 then some 2048 else none
theorem padSize_32 {n : Int} (h : 0 ≤ n) (h1 : n ≤ 30) : padSize n = some 32 := by unfold padSize; rw [if_neg (by omega), if_pos (by omega)]
theorem padSize_128 {n : Int} (h : 31 ≤ n) (h1 : n ≤ 126) : padSize n = some 128 := by unfold padSize; rw [if_neg (by omega), if_neg (by omega), if_pos (by omega)]
theorem padSize_512 {n : Int} (h : 127 ≤ n) (h1 : n ≤ 510) : padSize n = some 512 := by unfold padSize; rw [if_neg (by omega), if_neg (by omega), if_neg (by omega), if_pos (by omega)]
theorem padSize_2048 {n : Int} (h : 511 ≤ n) (h1 : n ≤ 2046) : padSize n = some 2048 := by unfold padSize; rw [if_neg (by omega), if_neg (by omega), if_neg (by omega), if_neg (by omega), if_pos (by omega)]
theorem padSize_none {n : Int} (h : n < 0 ∨ 2047 ≤ n) : padSize n = none := by
 unfold padSize
 rcases h with h | h
 · rw [if_pos h]
 · rw [if_neg (by omega), if_neg (by omega), if_neg (by omega), if_neg (by omega), if_neg (by omega)]
def padLow : Nat → Int | 0 => 0 | 1 => 31 | 2 => 127 | 3 => 511 | _ => 2047
set_option maxHeartbeats 800000 in
theorem size (n : Int) (w : World) :
 Calls Tryz.prog 67 #[.int .i64 n] w fun e w' => e = .returned (.tuple #[.int .i64 (((padSize n).getD 0 : Nat) : Int), .bool (padSize n).isSome]) ∧ Pu w w' := by
 go_enter Tryz.func67, Tryz.ntmps67
 go_wp2_with (go_at_call 104; refine (sizes _).mono ?_; rintro e w1 ⟨g, cap, rfl, hb, hrow⟩)
 have c0 := hrow.cell 0 (by simp [ints])
 have c1 := hrow.cell 1 (by simp [ints])
 have c2 := hrow.cell 2 (by simp [ints])
 have c3 := hrow.cell 3 (by simp [ints])
 simp [ints] at c0 c1 c2 c3
 go_loop [5, 8] (fun _ i => ∃ k : Nat, k ≤ 4 ∧ i = .int .i64 k ∧ (n < 0 ∨ padLow k ≤ n)) (fun _ i => 4 - (intOf i).toNat)
 case atStart => exact ⟨0, by omega, rfl, by simp [padLow]; omega⟩
 case round =>
  obtain ⟨k, hk, rfl, hlo⟩ := hrel
  have hk5 : k = 0 ∨ k = 1 ∨ k = 2 ∨ k = 3 ∨ k = 4 := by omega
  rcases hk5 with rfl | rfl | rfl | rfl | rfl
  · simp only [padLow] at hlo
    by_cases hin : 0 ≤ n ∧ n ≤ 30
    · obtain ⟨h0, h1⟩ := hin
      go_wp2_with fail
      go_ret2
      have hs := padSize_32 (n := n) (by omega) (by omega)
      exact ⟨by rw [hs]; rfl, hb⟩
    · by_cases h0 : 0 ≤ n
      · have h1 : 30 < n := by omega
        go_wp2_with fail
        go_round
        case rel => exact ⟨1, by omega, by go_num, by simp [padLow]; omega⟩
        case measure => simp [intOf]
      · have h1 : n < 0 := by omega
        have h2 : decide (0 ≤ n) = false := by simp; omega
        go_wp2_with fail
        go_round
        case rel => exact ⟨1, by omega, by go_num, by left; omega⟩
        case measure => simp [intOf]
  · simp only [padLow] at hlo
    by_cases hin : 0 ≤ n ∧ n ≤ 126
    · obtain ⟨h0, h1⟩ := hin
      go_wp2_with fail
      go_ret2
      have hs := padSize_128 (n := n) (by omega) (by omega)
      exact ⟨by rw [hs]; rfl, hb⟩
    · by_cases h0 : 0 ≤ n
      · have h1 : 126 < n := by omega
        go_wp2_with fail
        go_round
        case rel => exact ⟨2, by omega, by go_num, by simp [padLow]; omega⟩
        case measure => simp [intOf]
      · have h1 : n < 0 := by omega
        have h2 : decide (0 ≤ n) = false := by simp; omega
        go_wp2_with fail
        go_round
        case rel => exact ⟨2, by omega, by go_num, by left; omega⟩
        case measure => simp [intOf]
  · simp only [padLow] at hlo
    by_cases hin : 0 ≤ n ∧ n ≤ 510
    · obtain ⟨h0, h1⟩ := hin
      go_wp2_with fail
      go_ret2
      have hs := padSize_512 (n := n) (by omega) (by omega)
      exact ⟨by rw [hs]; rfl, hb⟩
    · by_cases h0 : 0 ≤ n
      · have h1 : 510 < n := by omega
        go_wp2_with fail
        go_round
        case rel => exact ⟨3, by omega, by go_num, by simp [padLow]; omega⟩
        case measure => simp [intOf]
      · have h1 : n < 0 := by omega
        have h2 : decide (0 ≤ n) = false := by simp; omega
        go_wp2_with fail
        go_round
        case rel => exact ⟨3, by omega, by go_num, by left; omega⟩
        case measure => simp [intOf]
  · simp only [padLow] at hlo
    by_cases hin : 0 ≤ n ∧ n ≤ 2046
    · obtain ⟨h0, h1⟩ := hin
      go_wp2_with fail
      go_ret2
      have hs := padSize_2048 (n := n) (by omega) (by omega)
      exact ⟨by rw [hs]; rfl, hb⟩
    · by_cases h0 : 0 ≤ n
      · have h1 : 2046 < n := by omega
        go_wp2_with fail
        go_round
        case rel => exact ⟨4, by omega, by go_num, by simp [padLow]; omega⟩
        case measure => simp [intOf]
      · have h1 : n < 0 := by omega
        have h2 : decide (0 ≤ n) = false := by simp; omega
        go_wp2_with fail
        go_round
        case rel => exact ⟨4, by omega, by go_num, by left; omega⟩
        case measure => simp [intOf]
  · simp only [padLow] at hlo
    go_wp2_with fail
    go_ret2
    have hs := padSize_none (n := n) (by omega)
    exact ⟨by rw [hs]; rfl, hb⟩
/-- A text filled up. -/
def padL (b : List UInt8) : Option (List UInt8) := (padSize b.length).map fun s => putB b.length 2 ++ b ++ List.replicate (s - 2 - b.length) 0
theorem padSize_some {b : List UInt8} {s : Nat} (h : padSize (b.length : Int) = some s) : b.length + 2 ≤ s ∧ s ≤ 2048 := by
 rcases (by omega : (b.length : Int) ≤ 30 ∨ (31 ≤ (b.length : Int) ∧ (b.length : Int) ≤ 126) ∨ (127 ≤ (b.length : Int) ∧ (b.length : Int) ≤ 510) ∨ (511 ≤ (b.length : Int) ∧ (b.length : Int) ≤ 2046) ∨ 2047 ≤ (b.length : Int)) with k | k | k | k | k
 · rw [padSize_32 (by omega) k] at h; simp at h; omega
 · rw [padSize_128 k.1 k.2] at h; simp at h; omega
 · rw [padSize_512 k.1 k.2] at h; simp at h; omega
 · rw [padSize_2048 k.1 k.2] at h; simp at h; omega
 · rw [padSize_none (.inr k)] at h; simp at h
set_option maxHeartbeats 800000 in
theorem pad (b : List UInt8) (w : World) (hb : b.length ≤ 140737488351232) :
 Calls Tryz.prog 19 #[S b] w fun e w' => e = .returned (.tuple #[S ((padL b).getD []), .bool (padL b).isSome]) ∧ Pu w w' := by
 cases hs : padSize (b.length : Int) with
 | none =>
   have hp : padL b = none := by simp [padL, hs]
   have HP := Lib.hid hp
   have hz := size (b.length : Int)
   rw [hs] at hz
   have HZ := Lib.hid hz
   clear hp hz hs
   go_enter Tryz.func19, Tryz.ntmps19
   go_wp2_with (go_at_call 67; refine (HZ.out _).mono ?_; rintro e w1 ⟨rfl, hb1⟩)
   go_ret2
   exact ⟨by rw [HP.out]; rfl, hb1⟩
 | some s =>
   have hp : padL b = some (putB b.length 2 ++ b ++ List.replicate (s - 2 - b.length) 0) := by simp [padL, hs]
   have HP := Lib.hid hp
   have hz := size (b.length : Int)
   obtain ⟨h1, h2⟩ := padSize_some hs
   rw [hs] at hz
   have HZ := Lib.hid hz
   clear hp hz hs
   have hpl : (putB b.length 2).length ≤ 2 := by rw [putB_length]; omega
   go_enter Tryz.func19, Tryz.ntmps19
   go_wp2_with (first | (go_at_call 67; refine (HZ.out _).mono ?_; rintro e w1 ⟨rfl, hb1⟩) | (go_at_call 20; refine (putBig _ _ _ (by omega) (by omega) (by omega)).mono ?_; rintro e w2 ⟨rfl, hb2⟩) | (go_at_call 68; refine (rep 0 _ _ (by omega) (by omega)).mono ?_; rintro e w3 ⟨rfl, hb3⟩))
   go_ret2
   refine ⟨?_, (hb1.trans hb2).trans hb3⟩
   rw [HP.out]
   rfl
/-- What was filled up. -/
def unpadL (b : List UInt8) : Option (List UInt8) :=
 if b.length < 2 then none else
 let n := beN (b.take 2)
 if b.length - 2 < n then none else
 let o := (b.take (2 + n)).drop 2
 if padL o = some b then some o else none
set_option maxHeartbeats 800000 in
set_option maxRecDepth 100000 in
theorem unpad (b : List UInt8) (w : World) (hb : b.length ≤ 140737488351232) :
 Calls Tryz.prog 88 #[S b] w fun e w' => e = .returned (.tuple #[S ((unpadL b).getD []), .bool (unpadL b).isSome]) ∧ Pu w w' := by
 by_cases h2 : b.length < 2
 · have hp : unpadL b = none := by simp [unpadL, h2]
   have HP := Lib.hid hp
   clear hp
   go_enter Tryz.func88, Tryz.ntmps88
   go_wp2_with fail
   go_ret2
   exact ⟨by rw [HP.out]; rfl, Below.refl _ _⟩
 · have hB : beN (b.take 2) < 65536 := by have := beN_lt (b.take 2); simp at this; rw [Nat.min_eq_left (by omega)] at this; omega
   obtain ⟨n, hn⟩ : ∃ n, n = beN (b.take 2) := ⟨_, rfl⟩
   have hbig := big (b.take 2)
   rw [← hn] at hbig hB
   have HB := Lib.hid hbig
   clear hbig
   by_cases hlt : b.length - 2 < n
   · have hp : unpadL b = none := by simp [unpadL, h2, ← hn, hlt]
     have HP := Lib.hid hp
     clear hp hn
     have hlt' : (b.length : Int) - 2 < n := by omega
     go_enter Tryz.func88, Tryz.ntmps88
     go_wp2_with (go_at_call 31; refine (HB.out _ (by simp; omega)).mono ?_; rintro e w1 ⟨rfl, hb1⟩)
     go_ret2
     exact ⟨by rw [HP.out]; rfl, hb1⟩
   · have hle : (n : Int) ≤ (b.length : Int) - 2 := by omega
     have hs1 : (2:Int) ≤ 2 + (n:Int) := by omega
     have hs2 : 2 + (n:Int) ≤ (b.length:Int) := by omega
     obtain ⟨o, ho⟩ : ∃ o, o = (b.take (2 + n)).drop 2 := ⟨_, rfl⟩
     have hu : unpadL b = if padL o = some b then some o else none := by
      rw [unpadL, if_neg h2]; simp only [← hn, if_neg hlt, ← ho]
     have hol : o.length ≤ b.length := by rw [ho]; simp; omega
     have hpad := fun w => pad o w (by omega)
     have HO := Lib.hid ho
     clear ho hn
     cases hpo : padL o with
     | none =>
       rw [hpo] at hpad
       have hp : unpadL b = none := by rw [hu, hpo]; simp
       have HP := Lib.hid hp
       have HD := Lib.hid hpad
       clear hp hpad hu hpo
       go_enter Tryz.func88, Tryz.ntmps88
       go_wp2_with (first | (go_at_call 31; refine (HB.out _ (by simp; omega)).mono ?_; rintro e w1 ⟨rfl, hb1⟩) | (go_at_call 19; rw [← HO.out]; refine (HD.out _).mono ?_; rintro e w2 ⟨rfl, hb2⟩))
       go_ret2
       exact ⟨by rw [HP.out]; rfl, hb1.trans hb2⟩
     | some q =>
       rw [hpo] at hpad
       have HD := Lib.hid hpad
       by_cases hq : q = b
       · have hp : unpadL b = some o := by rw [hu, hpo, hq]; simp
         have HP := Lib.hid hp
         have hqb : (q == b) = true := by simpa using hq
         clear hp hpad hu hpo hq
         go_enter Tryz.func88, Tryz.ntmps88
         go_wp2_with (first | (go_at_call 31; refine (HB.out _ (by simp; omega)).mono ?_; rintro e w1 ⟨rfl, hb1⟩) | (go_at_call 19; rw [← HO.out]; refine (HD.out _).mono ?_; rintro e w2 ⟨rfl, hb2⟩))
         go_ret2
         exact ⟨by rw [HP.out]; rfl, hb1.trans hb2⟩
       · have hp : unpadL b = none := by rw [hu, hpo]; simp [hq]
         have HP := Lib.hid hp
         have hqb : (q == b) = false := by simpa using hq
         clear hp hpad hu hpo hq
         go_enter Tryz.func88, Tryz.ntmps88
         go_wp2_with (first | (go_at_call 31; refine (HB.out _ (by simp; omega)).mono ?_; rintro e w1 ⟨rfl, hb1⟩) | (go_at_call 19; rw [← HO.out]; refine (HD.out _).mono ?_; rintro e w2 ⟨rfl, hb2⟩))
         go_ret2
         exact ⟨by rw [HP.out]; rfl, hb1.trans hb2⟩
end Go.Proofs.YtoakccknimoogaaGreat
namespace Go.Esc
open Go Go.RowKit
theorem run_index_agg {P : Program} (t e : TypeId) (n : Nat) (ws : List Value) (k : IntKind) (j : Nat) (v : Value) (w : World) (h : P.underlying t = some (.array n e)) (hj : j < n) (hk : P.plainKey e = true)
 (hs : (P.info? e).map (·.size) = some 1) (hv : ws[j]? = some v) : (Instr.index t (.agg ws.toArray) (.int k (j : Int))).run P w = .ok v w := by
 have hn : 0 ≤ (j : Int) ∧ (j : Int) < (n : Int) := by omega
 have hp : (part e ws.toArray j).run P w = .ok v w := run_part_plain w hk (by simpa using hv)
 cases hq : P.info? e with
 | none => simp [hq] at hs
 | some i =>
   have hi : i.size = 1 := by simpa [hq] using hs
   unfold part at hp
   simp [Instr.index, run_underlying h, asIntOf, hj, sizeOf, typeInfo, hq, hi, go_sem]
   simpa [sizeOf, typeInfo, hq, hi, go_sem] using hp
end Go.Esc
set_option linter.unusedSimpArgs false
set_option linter.unusedVariables false
namespace Go.Proofs.YtoakccknimoogaaGreat
open Go.RowKit Go.Esc
theorem sha_take (x : St) (j : Nat) (h : j < 8) : (x.l.take (j+1)).flatMap (fun w => putB w.toNat 4) = (x.l.take j).flatMap (fun w => putB w.toNat 4) ++ putB ((x.l.getD j 0).toNat) 4 := by
 rw [List.take_succ_eq_append_getElem (by show j < 8; exact h), List.flatMap_append]
 congr 1
 simp [List.getD_eq_getElem?_getD, List.getElem?_eq_getElem (show j < x.l.length from h)]
theorem flat4 (l : List Wd) : (l.flatMap fun w => putB w.toNat 4).length = 4 * l.length := flat_length l
set_option maxRecDepth 100000 in
set_option maxHeartbeats 3200000 in
theorem digestSum (db : Nat) (l : Bs) (hl : l.length ≤ 900000) (w : World) (hd : Dig w db l) :
 Calls Tryz.prog 187 #[.pointer (some ⟨db, 0, none⟩)] w fun e w' => e = .returned (S (sha l)) ∧ Pu w w' := by
 obtain ⟨de, xs, hd, hx⟩ := hd
 have hlt := hd.lt
 have hx11 := hx.length
 have hone := hx.one
 have hc := hx.cell hd
 have hi11 : (Tryz.prog.info? 234).map (·.size) = some 11 := by kernel_rfl
 have hi8 : (Tryz.prog.info? 232).map (·.size) = some 8 := by kernel_rfl
 have htk : ((xs.drop 0).take 11) = xs := by rw [List.drop_zero, List.take_of_length_le (by omega)]
 obtain ⟨r, hr⟩ : ∃ r, r = l.length % 64 := ⟨_, rfl⟩
 obtain ⟨z, hz⟩ : ∃ z, z = (119 - r) % 64 := ⟨_, rfl⟩
 have z1 : ((l.length : Int)).tmod 64 = r := by rw [Int.tmod_eq_emod_of_nonneg (by omega)]; omega
 have z2 : ((119 : Int) - r).tmod 64 = z := by rw [Int.tmod_eq_emod_of_nonneg (by omega)]; omega
 have z3 : IntKind.i64.wrap ((119 : Int) - r) = 119 - r := by rw [IntKind.wrap_i64]; omega
 have z4 : IntKind.u64.wrap (l.length : Int) = l.length := by rw [IntKind.wrap_u64]; omega
 have z5 : IntKind.u64.wrap ((l.length : Int) * 8) = l.length * 8 := by rw [IntKind.wrap_u64]; omega
 have hpad : (128 : UInt8) :: (List.replicate z 0 ++ putB ((l.length : Int) * 8).toNat 8) = shaPad l.length := by
  rw [shaPad, ← hr, ← hz, show ((l.length : Int) * 8).toNat = l.length * 8 % 2 ^ 64 by omega]; rfl
 have hpl : l.length + (shaPad l.length).length ≤ 1000000 := by rw [← hpad]; simp [putB_length]; omega
 have hz64 : z < 64 := by omega
 have HX := Lib.hid hx
 have HPAD := Lib.hid hpad
 have HPL := Lib.hid hpl
 clear hx hpad hr hz hpl
 go_enter Tryz.func187, Tryz.ntmps187
 go_wp2_with (first
  | (refine wpList_load_part rfl 234 (.tmp 12) rfl db 0 11 (by rfl) (hd.alloc _) Tryz.underlying234 rfl hi11 (by omega) ?_; rw [htk])
  | (refine wpList_store_part rfl 234 (.tmp 4) (.tmp 13) rfl (w.heap.size + 1) 0 xs (by rfl) (by rfl) (Row.newAt _ _ _ _ (by simp) rfl) (by rw [hx11]; exact hi11) (by rw [hx11]; exact Nat.le_refl 11) hone ?_; intro w1 hx1 hch1
     rw [splice_all (by rw [hx11]; rfl)] at hx1
     have hd1 := hch1.row ((hd.alloc _).alloc _) (by omega)
     have hc1 := HX.out.cell hd1
     have ht1 := hch1.row ((Row.newAt w w.heap.size _ _ rfl rfl : Row _ w.heap.size 237 (once0 0 ++ zeros72)).alloc _) (by omega)
     have hp1 : Below w.heap.size w w1 := hch1.below (((Pu.refl w).alloc _).alloc _) (by omega)))
 have k84 : ∀ args w, (callFunc 189 args).run Tryz.prog w = .ok (.enter 189 args) w := fun args w => run_callFunc_body Tryz.func189 (by kernel_rfl) (by kernel_rfl) args w
 have k77 : ∀ args w, (callFunc 68 args).run Tryz.prog w = .ok (.enter 68 args) w := fun args w => run_callFunc_body Tryz.func68 (by kernel_rfl) (by kernel_rfl) args w
 have k76 : ∀ args w, (callFunc 20 args).run Tryz.prog w = .ok (.enter 20 args) w := fun args w => run_callFunc_body Tryz.func20 (by kernel_rfl) (by kernel_rfl) args w
 have k83 : ∀ args w, (callFunc 188 args).run Tryz.prog w = .ok (.enter 188 args) w := fun args w => run_callFunc_body Tryz.func188 (by kernel_rfl) (by kernel_rfl) args w
 have z6 : ¬ (9223372036854775807 < 1 + z) := by omega
 have z7 : (putB ((l.length : Int) * 8).toNat 8).length = 8 := putB_length _ _
 have z8 : ¬ (9223372036854775807 < z + 1 + 8) := by omega
 have k128 : (ByteArray.mk #[128]) = bs [128] := rfl
 have hadd : ∀ w', But w.heap.size w1 w' → Row w' w.heap.size 237 tableCells → Calls Tryz.prog 188 #[.pointer (some ⟨w.heap.size + 1, 0, none⟩), .pointer (some ⟨w.heap.size, 0, none⟩), S (128 :: (List.replicate z 0 ++ putB ((l.length : Int) * 8).toNat 8))] w' fun e w2 => e = .returned (.tuple #[]) ∧ But (w.heap.size + 1) w' w2 ∧ Row w2 (w.heap.size + 1) 234 (dcells true (vs (wordsOf (l ++ shaPad l.length)).l) (restOf (l ++ shaPad l.length)) (l ++ shaPad l.length).length) := by
  intro w' hp hr
  rw [HPAD.out]
  exact add (w.heap.size + 1) w.heap.size _ _ (by omega) l (shaPad l.length) HPL.out xs HX.out w' (hp.row hx1 (by omega)) hr
 have HADD := Lib.hid hadd
 clear z1 z2 z3 htk hadd
 apply region_writer (g := w.heap.size) (n := 12) (hn := by kernel_rfl) (hlast := rfl) (hU := by kernel_rfl) (Φ1 := ([])) (Φm := IsAt (.pointer (some ⟨w.heap.size, 0, none⟩)) w.heap.size 237 tableCells) (Φ2 := (Is _ :: Is _ :: Is _ :: Is _ :: Is _ :: Is _ :: Is _ :: Is _ :: Is _ :: Is _ :: Is _ :: [])) (hm := by kernel_rfl) (hE := by kernel_rfl) (hD := by kernel_rfl) (hsize := by kernel_rfl)
 case hop =>
  refine ⟨?_, ?_, ?_, ?_, ?_, ?_, ?_, ?_, ?_, ?_, ?_, ?_, trivial⟩
  · intro a' w' hs hp he
    have hp : Pu _ w' := hp
    have e3 := hs 3 (by kernel_rfl)
    try simp [Is, Region.binds] at he
    exact op_callB rfl (wanted_none rfl) (by first | (go_simp; done) | (go_simp; rfl)) ((table_made w.heap.size _ w' (ht1.pu hp)).mono (by rintro e w2 ⟨rfl, hb, ht⟩; exact ⟨_, rfl, ⟨rfl, ht⟩, hb⟩))
  · intro a' w' hs hp he
    have hp : But w.heap.size _ w' := hp
    have e5 := hs 5 (by kernel_rfl)
    try simp [Is, Region.binds] at he
    exact op_v
  · intro a' w' hs hp he
    have hp : But w.heap.size _ w' := hp
    try simp [Is, Region.binds] at he
    exact op_callP (rep 0 z w' (by omega) (by omega)) rfl (wanted_none rfl) (by first | (go_simp; done) | (go_simp; rfl)) (fun _ => rfl)
  · intro a' w' hs hp he
    have hp : But w.heap.size _ w' := hp
    try simp [Is, Region.binds] at he
    exact op_v
  · intro a' w' hs hp he
    have hp : But w.heap.size _ w' := hp
    have e0 := hs 0 (by kernel_rfl)
    try simp [Is, Region.binds] at he
    exact op_v
  · intro a' w' hs hp he
    have hp : But w.heap.size _ w' := hp
    try simp [Is, Region.binds] at he
    exact op_v
  · intro a' w' hs hp he
    have hp : But w.heap.size _ w' := hp
    try simp [Is, Region.binds] at he
    exact op_v
  · intro a' w' hs hp he
    have hp : But w.heap.size _ w' := hp
    try simp [Is, Region.binds] at he
    have c := HX.out.cell (hp.row hd1 (by omega)); exact op_val rfl (wanted_none rfl) (by first | (go_simp; done) | (go_simp; rfl)) rfl (Pu.refl _)
  · intro a' w' hs hp he
    have hp : But w.heap.size _ w' := hp
    try simp [Is, Region.binds] at he
    exact op_v
  · intro a' w' hs hp he
    have hp : But w.heap.size _ w' := hp
    try simp [Is, Region.binds] at he
    exact op_v
  · intro a' w' hs hp he
    have hp : But w.heap.size _ w' := hp
    try simp [Is, Region.binds] at he
    exact op_callP (putBig ((l.length : Int) * 8) 8 w' (by omega) (by omega) (by omega)) rfl (wanted_none rfl) (by first | (go_simp; done) | (go_simp; rfl)) (fun _ => rfl)
  · intro a' w' hs hp he
    have hp : But w.heap.size _ w' := hp
    try simp [Is, Region.binds] at he
    exact op_v
 case hend =>
  intro a' w' hdef hsz hs hp hall
  obtain ⟨r0, r1, r2, r3, r4, r5, r6, r7, r8, r9, r10, r11, -⟩ := hall
  obtain ⟨rv0, row0⟩ := r0
  have hA := agree_done (agree_step (agree_step (agree_step (agree_step (agree_step (agree_step (agree_step (agree_step (agree_step (agree_step (agree_step (agree_step (agree_initL [21, 22, 23, 24, 25, 26, 27, 28, 29, 30, 31, 32] hsz hs (by kernel_rfl)) rv0) r1) r2) r3) r4) r5) r6) r7) r8) r9) r10) r11)
  have ha := act_of hA hdef
  rw [ha]
  clear ha hA hs hsz hdef r1 r2 r3 r4 r5 r6 r7 r8 r9 r10 r11 rv0
  (try simp only [List.setIfInBounds_toArray])
  (try dsimp only [List.set_cons_zero, List.set_cons_succ])
  (try simp only [Exit.then])
  refine op_callK rfl (wanted_none rfl) (by first | (go_simp; done) | (go_simp; rfl)) ((HADD.out w' hp row0).mono ?_); rintro e w2 ⟨rfl, hb2, hr2⟩; refine ⟨_, rfl, ?_⟩
  (try simp only [Exit.inBlock, Exit.then])
  have hp2 : Below w.heap.size w w2 := But.below (But.below hp1 hp (Nat.le_refl _) hp1.size) hb2 (by omega) (Nat.le_trans hp1.size hp.size)
  have hs2 : w.heap.size + 2 ≤ w2.heap.size := by have := hr2.lt; omega
  obtain ⟨m, hm⟩ : ∃ m, m = l ++ shaPad l.length := ⟨_, rfl⟩
  rw [← hm] at hr2
  have hsha : sha l = (wordsOf m).l.flatMap (fun w => putB w.toNat 4) := by rw [hm]; rfl
  obtain ⟨x, hx⟩ : ∃ x, x = wordsOf m := ⟨_, rfl⟩
  rw [← hx] at hsha hr2
  obtain ⟨ws, hws⟩ : ∃ v, v = vs x.l := ⟨_, rfl⟩
  rw [← hws] at hr2
  have hws8 : ws.length = 8 := by rw [hws]; rfl
  have hdw := dcells_words true ws hws8 (restOf m) (m.length : Int)
  have hdl := dcells_length true ws hws8 (restOf m) (m.length : Int)
  have HSHA := Lib.hid hsha
  have HWS := Lib.hid hws
  clear hm hx hsha hws hp hd1 hc1 ht1 hx1 hch1 hp1 row0 hb2
  go_wp2_with (first
   | (refine wpList_load_part rfl 232 (.tmp 34) rfl (w.heap.size + 1) 1 8 (by rfl) (hr2.alloc _) Tryz.underlying232 rfl hi8 (by omega) ?_; rw [hdw]))
  have hbd : Bld (w2.alloc (.cells #[.pointer none, .slice none 0 0] 167)) w2.heap.size [] := Bld.new _ _ _ _ rfl rfl rfl
  have hbel : Below w.heap.size w (w2.alloc (.cells #[.pointer none, .slice none 0 0] 167)) := hp2.alloc (by omega) _
  clear hr2 hp2 hd hdw hdl
  go_loopw [36] (fun i wr => ∃ j : Nat, j ≤ 8 ∧ i = .int .i64 (j : Int) ∧ Bld wr w2.heap.size ((x.l.take j).flatMap fun w => putB w.toNat 4) ∧ Below w.heap.size w wr) (fun i _ => 8 - (intOf i).toNat)
  case atStart => exact ⟨0, by omega, rfl, hbd, hbel⟩
  case round =>
   clear hbd hbel
   obtain ⟨j, hj, rfl, hbd, hbel⟩ := hrel
   by_cases hlt : j < 8
   · have hst := sha_take x j hlt
     obtain ⟨y, hy⟩ : ∃ y, y = x.l.getD j 0 := ⟨_, rfl⟩
     rw [← hy] at hst
     have hget : ws[j]? = some (V y) := by rw [HWS.out, hy]; exact vs_get _ _ hlt
     obtain ⟨acc, hacc⟩ : ∃ a, a = ((x.l.take j).flatMap fun w => putB w.toNat 4) := ⟨_, rfl⟩
     have hal : acc.length = 4 * j := by rw [hacc, flat4, List.length_take, show x.l.length = 8 from rfl]; omega
     rw [← hacc] at hst hbd
     have hwy : IntKind.u64.wrap (wd y) = wd y := wrap64_wd y
     have hwn := wd_nonneg y
     have hw4 : (putB (wd y).toNat 4).length = 4 := putB_length _ _
     have HST := Lib.hid hst
     have HACC := Lib.hid hacc
     have h0j : (0 : Int) ≤ j := by omega
     have h8j : (j : Int) < 8 := by omega
     have hix := fun w => run_index_agg (P := Tryz.prog) 232 108 8 ws .i64 j (V y) w Tryz.underlying232 hlt (by kernel_rfl) (by kernel_rfl) hget
     clear hst hacc hy hget
     go_wp2_with (first
      | (go_at_call 20; refine (putBig (wd y) 4 _ hwn (by omega) (by omega)).mono ?_; rintro e w3 ⟨rfl, hp3⟩; replace hbd := hbd.pu hp3; replace hbel := hbel.trans (Below.mono hp3 hbel.size))
      | (go_at_call 108; refine (write w2.heap.size acc (putB (wd y).toNat 4) _ hbd (by omega)).mono ?_; rintro e w4 ⟨rfl, hbd4, hp4⟩))
     go_roundw
     case rel =>
      refine ⟨j + 1, by omega, by go_num, ?_, hbel.trans (Below.mono hp4 (by omega))⟩
      rw [HST.out]
      have : (wd y).toNat = y.toNat := wd_toNat y
      rw [← this]; exact hbd4
     case measure => simp [intOf]; omega
   · obtain rfl : j = 8 := by omega
     rw [show x.l.take 8 = x.l from rfl] at hbd
     obtain ⟨acc, hacc⟩ : ∃ a, a = (x.l.flatMap fun w => putB w.toNat 4) := ⟨_, rfl⟩
     rw [← hacc] at hbd
     have HACC := Lib.hid hacc
     clear hacc
     go_wp2_with (go_at_call 110; refine (string w2.heap.size acc _ hbd).mono ?_; rintro e w4 ⟨rfl, hp4⟩)
     go_ret
     exact ⟨by rw [HSHA.out, ← HACC.out]; rfl, hbel.trans (Below.mono hp4 (by omega))⟩
end Go.Proofs.YtoakccknimoogaaGreat
set_option linter.unusedSimpArgs false
set_option linter.unusedVariables false
namespace Go.Proofs.YtoakccknimoogaaGreat
open Go.RowKit Go.Esc
set_option maxRecDepth 100000 in
set_option maxHeartbeats 1600000 in
theorem sum (l : Bs) (hl : l.length ≤ 900000) (w : World) :
 Calls Tryz.prog 178 #[S l] w fun e w' => e = .returned (S (sha l)) ∧ Pu w w' := by
 have hd0 : Dig (w.alloc (.cells (dcells false zero8 [] 0).toArray 234)) w.heap.size [] := Dig.new w _
 have HD0 := Lib.hid hd0
 clear hd0
 go_enter Tryz.func178, Tryz.ntmps178
 go_wp2_with (first
  | (go_at_call 186; refine (digestAdd w.heap.size [] l (by simp; omega) _ HD0.out).mono ?_; rintro e w1 ⟨rfl, hb1, hd1⟩; rw [List.nil_append] at hd1)
  | (go_at_call 187; refine (digestSum w.heap.size l hl _ hd1).mono ?_; rintro e w2 ⟨rfl, hp2⟩))
 go_ret
 exact ⟨rfl, (But.below ((Pu.refl w).alloc _) hb1 (Nat.le_refl _) (by simp)).trans (Below.mono hp2 (by have := hb1.size; simp at this; omega))⟩
end Go.Proofs.YtoakccknimoogaaGreat
set_option linter.unusedSimpArgs false
set_option linter.unusedVariables false
namespace Go.Esc
open Go Go.RowKit
def keyL (key : Bs) : Bs := let k := if 64 < key.length then sha key else key; k ++ List.replicate (64 - k.length) 0
def macL (key b : Bs) : Bs := sha (xorL (keyL key) (List.replicate 64 0x5c) ++ sha (xorL (keyL key) (List.replicate 64 0x36) ++ b))
end Go.Esc
namespace Go.Proofs.YtoakccknimoogaaGreat
open Go.RowKit Go.Esc
theorem sha_len (l : Bs) : (sha l).length = 32 := by rw [sha_words, flat4]; rfl
theorem macL_length (key b : Bs) : (macL key b).length = 32 := sha_len _
theorem xorL_length64 (a b : Bs) (ha : a.length = 64) (hb : b.length = 64) : (xorL a b).length = 64 := by rw [xorL_length]; omega
set_option maxRecDepth 100000 in
set_option maxHeartbeats 1600000 in
theorem macOf (key b : Bs) (h : key.length ≤ 100000) (h2 : b.length ≤ 800000) (w : World) :
 Calls Tryz.prog 169 #[S key, S b] w fun e w' => e = .returned (S (macL key b)) ∧ Pu w w' := by
 obtain ⟨k, hk⟩ : ∃ k, k = (if 64 < key.length then sha key else key) := ⟨_, rfl⟩
 have hkl : k.length ≤ 64 := by
  rw [hk]; split
  · rw [sha_len]; omega
  · omega
 obtain ⟨z, hz⟩ : ∃ z, z = 64 - k.length := ⟨_, rfl⟩
 obtain ⟨k2, hk2⟩ : ∃ k2, k2 = k ++ List.replicate z 0 := ⟨_, rfl⟩
 have hk2l : k2.length = 64 := by rw [hk2]; simp; omega
 have hk2k : k2 = keyL key := by rw [hk2, keyL, hz, hk]
 obtain ⟨xi, hxi⟩ : ∃ x, x = xorL k2 (List.replicate 64 54) := ⟨_, rfl⟩
 obtain ⟨xo, hxo⟩ : ∃ x, x = xorL k2 (List.replicate 64 92) := ⟨_, rfl⟩
 have hxil : xi.length = 64 := by rw [hxi]; exact xorL_length64 _ _ hk2l (by simp)
 have hxol : xo.length = 64 := by rw [hxo]; exact xorL_length64 _ _ hk2l (by simp)
 obtain ⟨si, hsi⟩ : ∃ x, x = sha (xi ++ b) := ⟨_, rfl⟩
 have hsil : si.length = 32 := by rw [hsi]; exact sha_len _
 obtain ⟨so, hso⟩ : ∃ x, x = sha (xo ++ si) := ⟨_, rfl⟩
 have hfin : macL key b = so := by rw [macL, ← hk2k, ← hxi, ← hxo, ← hsi, ← hso]
 have hX1 := fun w => xor k2 (List.replicate 64 54) (.inl (by omega)) w
 have hX2 := fun w => xor k2 (List.replicate 64 92) (.inl (by omega)) w
 have hS1 := fun w => sum (xi ++ b) (by simp; omega) w
 have hS2 := fun w => sum (xo ++ si) (by simp; omega) w
 rw [← hxi] at hX1
 rw [← hxo] at hX2
 rw [← hsi] at hS1
 rw [← hso] at hS2
 have hR1 := fun w => rep 54 64 w (by decide) (by decide)
 have hR2 := fun w => rep 92 64 w (by decide) (by decide)
 have hR0 := fun w => rep 0 (z : Int) w (by omega) (by omega)
 rw [show (z : Int).toNat = z from rfl] at hR0
 rw [show (64 : Int).toNat = 64 from rfl] at hR1 hR2
 obtain ⟨r1, hr1⟩ : ∃ r, r = List.replicate 64 (54 : UInt8) := ⟨_, rfl⟩
 obtain ⟨r2, hr2⟩ : ∃ r, r = List.replicate 64 (92 : UInt8) := ⟨_, rfl⟩
 rw [← hr1] at hX1 hR1
 rw [← hr2] at hX2 hR2
 have c1 : ¬ (9223372036854775807 < xi.length + b.length) := by omega
 have c2 : ¬ (9223372036854775807 < xo.length + si.length) := by omega
 have c3 : ¬ (9223372036854775807 < k.length + z) := by omega
 have c4 : (64 : Int) - k.length = z := by omega
 have c5 : IntKind.i64.wrap (z : Int) = z := by rw [IntKind.wrap_i64]; omega
 have hcat : k ++ List.replicate z 0 = k2 := hk2.symm
 have HX1 := Lib.hid hX1
 have HX2 := Lib.hid hX2
 have HS1 := Lib.hid hS1
 have HS2 := Lib.hid hS2
 have HR0 := Lib.hid hR0
 have HR1 := Lib.hid hR1
 have HR2 := Lib.hid hR2
 have HF := Lib.hid hfin
 clear hX1 hX2 hS1 hS2 hR0 hR1 hR2 hfin hz hk2 hk2k hxi hxo hsi hso hr1 hr2
 by_cases h64 : 64 < key.length
 · have h64' : (64 : Int) < key.length := by omega
   have hks : k = sha key := by rw [hk, if_pos h64]
   have hSK := fun w => sum key (by omega) w
   rw [← hks] at hSK
   have HSK := Lib.hid hSK
   clear hk hks hSK
   go_enter Tryz.func169, Tryz.ntmps169
   go_wp2_with (first
    | (go_at_call 178; first
       | (with_reducible refine (HS1.out _).mono ?_
          rintro e w4 ⟨rfl, hp⟩; replace hpu := hpu.trans hp)
       | (with_reducible refine (HS2.out _).mono ?_
          rintro e w4 ⟨rfl, hp⟩; replace hpu := hpu.trans hp)
       | (with_reducible refine (HSK.out _).mono ?_
          rintro e w4 ⟨rfl, hp⟩; have hpu : Pu w w4 := hp))
    | (go_at_call 68; first
       | (refine (HR0.out _).mono ?_; rintro e w4 ⟨rfl, hp⟩; clear HR0; first | (replace hpu := hpu.trans hp) | have hpu : Pu w w4 := hp)
       | (refine (HR1.out _).mono ?_; rintro e w4 ⟨rfl, hp⟩; clear HR1; replace hpu := hpu.trans hp)
       | (refine (HR2.out _).mono ?_; rintro e w4 ⟨rfl, hp⟩; clear HR2; replace hpu := hpu.trans hp))
    | (go_at_call 113; first
       | (refine (HX1.out _).mono ?_; rintro e w4 ⟨rfl, hp⟩; clear HX1; replace hpu := hpu.trans hp)
       | (refine (HX2.out _).mono ?_; rintro e w4 ⟨rfl, hp⟩; clear HX2; replace hpu := hpu.trans hp)))
   go_ret
   exact ⟨by rw [HF.out]; rfl, hpu⟩
 · have h64' : decide ((64 : Int) < key.length) = false := by simp; omega
   obtain rfl : k = key := by rw [hk, if_neg h64]
   clear hk
   go_enter Tryz.func169, Tryz.ntmps169
   go_wp2_with (first
    | (go_at_call 178; first
       | (with_reducible refine (HS1.out _).mono ?_
          rintro e w4 ⟨rfl, hp⟩; replace hpu := hpu.trans hp)
       | (with_reducible refine (HS2.out _).mono ?_
          rintro e w4 ⟨rfl, hp⟩; replace hpu := hpu.trans hp)
       | (with_reducible refine (HSK.out _).mono ?_
          rintro e w4 ⟨rfl, hp⟩; have hpu : Pu w w4 := hp))
    | (go_at_call 68; first
       | (refine (HR0.out _).mono ?_; rintro e w4 ⟨rfl, hp⟩; clear HR0; first | (replace hpu := hpu.trans hp) | have hpu : Pu w w4 := hp)
       | (refine (HR1.out _).mono ?_; rintro e w4 ⟨rfl, hp⟩; clear HR1; replace hpu := hpu.trans hp)
       | (refine (HR2.out _).mono ?_; rintro e w4 ⟨rfl, hp⟩; clear HR2; replace hpu := hpu.trans hp))
    | (go_at_call 113; first
       | (refine (HX1.out _).mono ?_; rintro e w4 ⟨rfl, hp⟩; clear HX1; replace hpu := hpu.trans hp)
       | (refine (HX2.out _).mono ?_; rintro e w4 ⟨rfl, hp⟩; clear HX2; replace hpu := hpu.trans hp)))
   go_ret
   exact ⟨by rw [HF.out]; rfl, hpu⟩
end Go.Proofs.YtoakccknimoogaaGreat
namespace Go.Esc
open Go Go.RowKit
theorem one_byte_eq {P : Program} (w : World) (x : Nat) (h : x < 256) (s d e : TypeId) (hs : P.underlying s = some (.slice e)) (he : P.underlying e = some (.int .u8)) (hd : P.underlying d = some .string) :
 (convert s d (.slice (some ⟨w.heap.size, 0, none⟩) 1 1)).run P (w.alloc (.cells #[.int .u8 (x : Int)] e)) = .ok (S [UInt8.ofNat x]) (w.alloc (.cells #[.int .u8 (x : Int)] e)) := by
 refine Row.conv (e := e) s d ?_ rfl hs he hd
 have := Row.new w #[.int .u8 (x : Int)] e
 have e2 : cells [UInt8.ofNat x] = [.int .u8 (x : Int)] := by
  simp [cells, B]; omega
 rw [e2]; exact this
end Go.Esc
set_option linter.unusedSimpArgs false
set_option linter.unusedVariables false
namespace Go.Esc
open Go Go.RowKit
def lastE (key info : Bs) : Nat → Bs
 | 0 => []
 | k+1 => macL key (lastE key info k ++ info ++ [UInt8.ofNat (k+1)])
def outE (key info : Bs) : Nat → Bs
 | 0 => []
 | k+1 => outE key info k ++ lastE key info (k+1)
def expandL (key info : Bs) (n : Nat) : Bs := (outE key info ((n + 31) / 32)).take n
end Go.Esc
namespace Go.Proofs.YtoakccknimoogaaGreat
open Go.RowKit Go.Esc
theorem lastE_length (key info : Bs) (k : Nat) : (lastE key info k).length ≤ 32 := by
 cases k with
 | zero => simp [lastE]
 | succ k => rw [lastE, macL_length]; omega
theorem outE_length (key info : Bs) (k : Nat) : (outE key info k).length = 32 * k := by
 induction k with
 | zero => rfl
 | succ k ih => rw [outE, List.length_append, ih, lastE, macL_length]; omega
theorem expandL_length (key info : Bs) (n : Nat) : (expandL key info n).length = n := by
 rw [expandL, List.length_take, outE_length]; omega
set_option maxRecDepth 100000 in
set_option maxHeartbeats 1600000 in
theorem expand (key info : Bs) (n : Int) (h : key.length ≤ 100000) (h2 : info.length ≤ 700000) (h0 : 0 ≤ n) (hm : n ≤ 8160) (w : World) :
 Calls Tryz.prog 156 #[S key, S info, .int .i64 n] w fun e w' => e = .returned (.tuple #[S (expandL key info n.toNat), .bool true]) ∧ Pu w w' := by
 obtain ⟨N, rfl⟩ := Int.eq_ofNat_of_zero_le h0
 have q1 : decide ((N : Int) < 0) = false := by simp
 have q2 : decide ((8160 : Int) < N) = false := by simp; omega
 have q3 : ¬ ((N : Int) < 0) := by omega
 have q4 : ¬ ((8160 : Int) < N) := by omega
 go_enter Tryz.func156, Tryz.ntmps156
 go_wp2_with fail
 go_loopw [8, 9, 10] (fun v l i wr => ∃ (k K : Nat), K = k + 1 ∧ 32 * k < N + 32 ∧ v = S (outE key info k) ∧ l = S (lastE key info k) ∧ i = .int .i64 (K : Int) ∧ Pu w wr) (fun _ _ i _ => N + 32 - 32 * (intOf i).toNat)
 case atStart => exact ⟨0, 1, rfl, by omega, rfl, rfl, rfl, Pu.refl _⟩
 case round =>
  obtain ⟨k, K, hK, hkn, rfl, rfl, rfl, hpu⟩ := hrel
  have hol := outE_length key info k
  have hll := lastE_length key info k
  have hnl : lastE key info (k + 1) = macL key (lastE key info k ++ info ++ [UInt8.ofNat (k+1)]) := rfl
  have hno : outE key info (k + 1) = outE key info k ++ lastE key info (k + 1) := rfl
  have hnl2 : (lastE key info (k + 1)).length = 32 := macL_length _ _
  obtain ⟨o, ho⟩ : ∃ o, o = outE key info k := ⟨_, rfl⟩
  obtain ⟨l, hl⟩ : ∃ o, o = lastE key info k := ⟨_, rfl⟩
  obtain ⟨l2, hl2⟩ : ∃ o, o = lastE key info (k+1) := ⟨_, rfl⟩
  rw [← ho] at hol hno ⊢
  rw [← hl] at hll hnl ⊢
  rw [← hl2] at hnl hno hnl2
  by_cases hlt : 32 * k < N
  · have hlt' : (o.length : Int) < N := by omega
    have hK256 : K < 256 := by omega
    have hmod : (K : Int) % 256 = K := by omega
    have hcv := one_byte_eq (P := Tryz.prog) wr K hK256 51 9 5 Tryz.underlying51 Tryz.underlying5 Tryz.underlying9
    obtain ⟨c1, hc1⟩ : ∃ c, c = UInt8.ofNat K := ⟨_, rfl⟩
    rw [← hc1] at hcv
    have hM := fun w => macOf key (l ++ (info ++ [c1])) (by omega) (by simp; omega) w
    rw [show macL key (l ++ (info ++ [c1])) = l2 by rw [hnl, hc1, hK, List.append_assoc]] at hM
    have HM := Lib.hid hM
    have z1 : ¬ (9223372036854775807 < l.length + info.length) := by omega
    have z2 : ¬ (9223372036854775807 < l.length + info.length + 1) := by omega
    have z2b : ¬ (9223372036854775807 < l.length + (info.length + 1)) := by omega
    have z3 : ¬ (9223372036854775807 < o.length + l2.length) := by omega
    have z4 : ¬ (9223372036854775807 < o.length + 32) := by omega
    have HO := Lib.hid ho
    have HL := Lib.hid hl
    have HL2 := Lib.hid hl2
    have HNO := Lib.hid hno
    have HKK := Lib.hid hK
    have HC1 := Lib.hid hc1
    clear hM ho hl hl2 hno hnl hK hc1
    go_wp2_with (go_at_call 169; refine (HM.out _).mono ?_; rintro e w1 ⟨rfl, hp1⟩)
    go_roundw
    case rel =>
     have hKK := HKK.out
     exact ⟨k + 1, K + 1, by omega, by omega, by rw [HNO.out], by rw [HL2.out], by go_num, (hpu.alloc _).trans hp1⟩
    case measure => have hKK := HKK.out; simp [intOf]; omega
  · have hlt' : decide ((o.length : Int) < N) = false := by simp; omega
    have hlt2 : (N : Int) ≤ o.length := by omega
    have hk : k = (N + 31) / 32 := by omega
    have hfin : expandL key info N = o.take N := by rw [expandL, ← hk, ho]
    have HF := Lib.hid hfin
    clear hfin ho hl hl2 hno hnl hK hk
    go_wp2_with fail
    go_ret2
    exact ⟨by rw [show ((N : Int)).toNat = N from rfl, HF.out]; rfl, hpu⟩
end Go.Proofs.YtoakccknimoogaaGreat
set_option linter.unusedSimpArgs false
set_option linter.unusedVariables false
namespace Go.Esc
open Go Go.RowKit
def ratchetW : Bs := [114, 97, 116, 99, 104, 101, 116]
def nextL (k : Bs) : Bs := expandL k ratchetW 32
def turnL (k : Bs) : Nat → Bs
 | 0 => k
 | n+1 => nextL (turnL k n)
def fillL (s : Bs) (n : Nat) : Bs := (s ++ List.replicate (n - s.length) 0).take n
def nonceL (n : Nat) : Bs := List.replicate 4 0 ++ putB n 8
end Go.Esc
namespace Go.Proofs.YtoakccknimoogaaGreat
open Go.RowKit Go.Esc
theorem nextL_length (k : Bs) : (nextL k).length = 32 := expandL_length _ _ _
theorem turnL_length (k : Bs) (n : Nat) (hk : k.length ≤ 100000) : (turnL k n).length ≤ 100000 := by
 cases n with
 | zero => exact hk
 | succ n => rw [turnL, nextL_length]; omega
theorem turnL_length2 (k : Bs) (n : Nat) (h : 0 < n) : (turnL k n).length = 32 := by
 obtain ⟨m, rfl⟩ : ∃ m, n = m + 1 := ⟨n - 1, by omega⟩
 exact nextL_length _
theorem nonceL_length (n : Nat) : (nonceL n).length = 12 := by simp [nonceL, putB_length]
theorem next (k : Bs) (h : k.length ≤ 100000) (w : World) :
 Calls Tryz.prog 122 #[S k] w fun e w' => e = .returned (S (nextL k)) ∧ Pu w w' := by
 have hE := fun w => expand k ratchetW 32 h (by decide) (by decide) (by decide) w
 obtain ⟨r, hr⟩ : ∃ r, r = nextL k := ⟨_, rfl⟩
 rw [show expandL k ratchetW (32 : Int).toNat = r by rw [hr]; rfl] at hE
 rw [← hr]
 have HE := Lib.hid hE
 clear hE hr
 go_enter Tryz.func122, Tryz.ntmps122
 go_wp2_with (go_at_call 156; refine (HE.out _).mono ?_; rintro e w2 ⟨rfl, hp2⟩)
 go_ret
 exact ⟨rfl, hp2⟩
set_option maxRecDepth 100000 in
set_option maxHeartbeats 1600000 in
theorem ratchetAt (k : Bs) (n : Int) (h : k.length ≤ 100000) (h0 : 0 ≤ n) (h1 : n ≤ 100) (w : World) :
 Calls Tryz.prog 74 #[S k, .int .i64 n] w fun e w' => e = .returned (.tuple #[S (turnL k n.toNat), .bool true]) ∧ Pu w w' := by
 obtain ⟨N, rfl⟩ := Int.eq_ofNat_of_zero_le h0
 have q1 : decide ((N : Int) < 0) = false := by simp
 have q2 : decide ((100 : Int) < N) = false := by simp; omega
 go_enter Tryz.func74, Tryz.ntmps74
 go_wp2_with fail
 have hr0 := Row.newAt w w.heap.size #[.int .i64 0] 66 rfl rfl
 have hb0 := (Pu.refl w).alloc (.cells #[.int .i64 0] 66)
 go_loopw [0] (fun v wr => ∃ j : Nat, j ≤ N ∧ v = S (turnL k j) ∧ Row wr w.heap.size 66 [.int .i64 (j : Int)] ∧ Below w.heap.size w wr) (fun _ wr => N - (intOf ((wr.cell? ⟨w.heap.size, 0, none⟩).getD undef)).toNat)
 case atStart => exact ⟨0, by omega, rfl, hr0, hb0⟩
 case round =>
  clear hr0 hb0
  obtain ⟨j, hj, rfl, hr, hbel⟩ := hrel
  have c0 := hr.cell 0 (by simp)
  have f0 := hr.frozen 0 (by simp)
  simp at c0
  have htl := turnL_length k j h
  have hnx : turnL k (j+1) = nextL (turnL k j) := rfl
  obtain ⟨t, ht⟩ : ∃ t, t = turnL k j := ⟨_, rfl⟩
  rw [← ht] at htl hnx ⊢
  by_cases hlt : j < N
  · have hlt' : (j : Int) < N := by omega
    have hN := fun w => next t htl w
    rw [← hnx] at hN
    obtain ⟨t2, ht2⟩ : ∃ t, t = turnL k (j+1) := ⟨_, rfl⟩
    rw [← ht2] at hN
    have HN := Lib.hid hN
    have HT := Lib.hid ht
    have HT2 := Lib.hid ht2
    clear hN ht ht2 hnx
    go_wp2_with (first
     | (go_at_call 30; refine (load64 ⟨w.heap.size, 0, none⟩ _ _ c0).mono ?_; rintro e w3 ⟨rfl, rfl⟩)
     | (go_at_call 122; refine (HN.out _).mono ?_; rintro e w3 ⟨rfl, hp3⟩; replace hr := hr.pu hp3; replace hbel := hbel.trans (Below.mono hp3 hbel.size); have c1 := hr.cell 0 (by simp); have f1 := hr.frozen 0 (by simp); simp at c1)
     | (go_at_call 24; refine (add64 ⟨w.heap.size, 0, none⟩ (j : Int) _ (by omega) c1 f1).mono ?_; rintro e w4 ⟨rfl, rfl⟩))
    have hr2 := hr.set 0 (.int .i64 ((j : Int) + 1))
    have hc2 := hr2.cell 0 (by simp)
    simp at hc2
    go_roundw
    case rel => exact ⟨j + 1, by omega, by rw [HT2.out], hr2, hbel.setCell (by simp) _⟩
    case measure => rw [hc2, c0]; simp [intOf]; omega
  · obtain rfl : j = N := by omega
    have hlt' : decide ((j : Int) < j) = false := by simp
    have HT := Lib.hid ht
    clear ht hnx
    go_wp2_with (go_at_call 30; refine (load64 ⟨w.heap.size, 0, none⟩ _ _ c0).mono ?_; rintro e w3 ⟨rfl, rfl⟩)
    go_ret2
    exact ⟨by rw [show ((j : Int)).toNat = j from rfl, ← HT.out]; rfl, hbel⟩
theorem epoch (n : Int) (hn : n < 9223372036854775808) (w : World) :
 Calls Tryz.prog 71 #[.int .i64 n] w fun e w' => e = .returned (.int .i64 (if n < 0 then 0 else n / 8)) ∧ w' = w := by
 by_cases h : n < 0
 · rw [if_pos h]
   have hm : max n 0 = 0 := by omega
   go_enter Tryz.func71, Tryz.ntmps71
   go_wp2_with fail
   go_ret
   exact ⟨rfl, rfl⟩
 · rw [if_neg h]
   have hq : n.tdiv 8 = n / 8 := Int.tdiv_eq_ediv_of_nonneg (by omega)
   have h' : (0 : Int) ≤ n := by omega
   obtain ⟨q, hq2⟩ : ∃ q, q = n / 8 := ⟨_, rfl⟩
   rw [← hq2] at hq ⊢
   have hm : max n 0 = n := by omega
   have hw : IntKind.i64.wrap q = q := by rw [IntKind.wrap_i64]; omega
   clear hq2
   go_enter Tryz.func71, Tryz.ntmps71
   go_wp2_with fail
   go_ret
   exact ⟨rfl, rfl⟩
theorem nonce (n : Nat) (hn : n < 9223372036854775808) (w : World) :
 Calls Tryz.prog 23 #[.int .i64 (n : Int)] w fun e w' => e = .returned (S (nonceL n)) ∧ Pu w w' := by
 have hR := fun w => rep 0 4 w (by decide) (by decide)
 have hP := fun w => putBig (n : Int) 8 w (by omega) (by omega) (by omega)
 obtain ⟨r, hr⟩ : ∃ r, r = List.replicate 4 (0 : UInt8) := ⟨_, rfl⟩
 obtain ⟨p, hp⟩ : ∃ p, p = putB n 8 := ⟨_, rfl⟩
 have hrl : r.length = 4 := by rw [hr]; rfl
 have hpl : p.length = 8 := by rw [hp]; exact putB_length _ _
 rw [show (4 : Int).toNat = 4 from rfl, ← hr] at hR
 rw [show putB ((n : Int)).toNat (8 : Int).toNat = p by rw [hp]; rfl] at hP
 have hfin : r ++ p = nonceL n := by rw [hr, hp]; rfl
 obtain ⟨x, hx⟩ : ∃ x, x = nonceL n := ⟨_, rfl⟩
 rw [← hx] at hfin ⊢
 have h0 : decide ((n : Int) < 0) = false := by simp
 have hw : IntKind.u64.wrap (n : Int) = n := by rw [IntKind.wrap_u64]; omega
 have HR := Lib.hid hR
 have HP := Lib.hid hP
 clear hR hP hr hp hx
 go_enter Tryz.func23, Tryz.ntmps23
 go_wp2_with (first
  | (go_at_call 68; refine (HR.out _).mono ?_; rintro e w1 ⟨rfl, hp1⟩)
  | (go_at_call 20; refine (HP.out _).mono ?_; rintro e w2 ⟨rfl, hp2⟩))
 go_ret
 exact ⟨rfl, hp1.trans hp2⟩
set_option maxHeartbeats 800000 in
theorem fill (s : Bs) (n : Nat) (h : s.length ≤ n) (hn : n ≤ 100000) (w : World) :
 Calls Tryz.prog 6 #[S s, .int .i64 (n : Int)] w fun e w' => e = .returned (S (fillL s n)) ∧ w' = w := by
 have k0 : (ByteArray.mk #[0]) = bs [0] := rfl
 go_enter Tryz.func6, Tryz.ntmps6
 go_wp2_with fail
 go_loop [0] (fun v => ∃ k : Nat, s.length + k ≤ n ∧ v = S (s ++ List.replicate k 0)) (fun v => match v with | .string x => n - x.size | _ => 0)
 case atStart => exact ⟨0, by omega, by simp⟩
 case round =>
  obtain ⟨k, hk, rfl⟩ := hrel
  obtain ⟨cur, hcur⟩ : ∃ c, c = s ++ List.replicate k 0 := ⟨_, rfl⟩
  have hcl : cur.length = s.length + k := by rw [hcur]; simp
  have hnx : cur ++ [0] = s ++ List.replicate (k+1) 0 := by rw [hcur, List.replicate_succ', List.append_assoc]
  rw [← hcur]
  have z9 : ¬ (9223372036854775807 < cur.length + 1) := by omega
  by_cases hlt : cur.length < n
  · have hlt' : (cur.length : Int) < n := by omega
    have HC := Lib.hid hcl
    have HN := Lib.hid hnx
    clear hcl hnx hcur
    go_wp2_with fail
    go_round
    case rel => have := HC.out; exact ⟨k + 1, by omega, by rw [HN.out]⟩
    case measure => simp [bs_size]; omega
  · have hlt' : decide ((cur.length : Int) < n) = false := by simp; omega
    have hle : (n : Int) ≤ cur.length := by omega
    have hfin : fillL s n = cur.take n := by rw [fillL, hcur, show n - s.length = k by omega]
    have HF := Lib.hid hfin
    clear hcl hnx hcur hfin
    go_wp2_with fail
    go_ret
    exact ⟨by rw [HF.out]; rfl, rfl⟩
end Go.Proofs.YtoakccknimoogaaGreat
namespace Go.Esc
open Go Go.RowKit Go.Proofs.YtoakccknimoogaaGreat
theorem turn32 (k : Bs) (e : Nat) (h : k.length = 32) : (turnL k e).length = 32 := by
 rcases Nat.eq_zero_or_pos e with rfl | he
 · exact h
 · exact turnL_length2 k e he
theorem fine_turn (k : Bs) (e s : Nat) (h : k.length = 32) : fineL (turnL k e) (nonceL s) = true := by
 simp [fineL, turn32 k e h, nonceL_length]
/-- The record of a number. -/
def recL (key : Bs) (s : Nat) (plain : Bs) : Bs := putB s 8 ++ sealL (turnL key (s / 8)) (nonceL s) ((padL plain).getD []) (putB s 8)
/-- What is in a record of a number. -/
def plainL (key : Bs) (s : Nat) (b : Bs) : Option Bs := if (openR (turnL key (s / 8)) (nonceL s) (b.drop 8) (b.take 8)).2 then unpadL (openR (turnL key (s / 8)) (nonceL s) (b.drop 8) (b.take 8)).1 else none
def badForm (b : Bs) : Prop := b.length < 24 ∨ 400 ≤ beN (b.take 8)
instance (b : Bs) : Decidable (badForm b) := inferInstanceAs (Decidable (_ ∨ _))
/-- The texts that can be told, from number n on: k at most. -/
def runF (f : Nat → Option Bs) (n : Nat) : Nat → List Bs
 | 0 => []
 | k+1 => match f n with
   | none => []
   | some t => t :: runF f (n+1) k
/-- Just so many texts can be told. -/
def IsRun (f : Nat → Option Bs) (n : Nat) (out : List Bs) : Prop := (∀ j, j < out.length → f (n + j) = out[j]?) ∧ f (n + out.length) = none
theorem IsRun.uniq {f : Nat → Option Bs} {n : Nat} {a b : List Bs} (ha : IsRun f n a) (hb : IsRun f n b) : a = b := by
 have hl : a.length = b.length := by
  rcases Nat.lt_trichotomy a.length b.length with h | h | h
  · have h1 := hb.1 a.length h
    rw [ha.2, List.getElem?_eq_getElem h] at h1; cases h1
  · exact h
  · have h1 := ha.1 b.length h
    rw [hb.2, List.getElem?_eq_getElem h] at h1; cases h1
 apply List.ext_getElem? 
 intro j
 by_cases h : j < a.length
 · rw [← ha.1 j h, ← hb.1 j (by omega)]
 · rw [List.getElem?_eq_none (by omega), List.getElem?_eq_none (by omega)]
theorem runF_is (f : Nat → Option Bs) : ∀ (k n : Nat), f (n + k) = none → IsRun f n (runF f n k)
 | 0, n, h => ⟨fun j hj => by simp [runF] at hj, by simpa [runF] using h⟩
 | k+1, n, h => by
   unfold runF
   cases hf : f n with
   | none => exact ⟨fun j hj => by simp at hj, by simpa using hf⟩
   | some t =>
     obtain ⟨h1, h2⟩ := runF_is f k (n+1) (by rw [Nat.add_right_comm]; exact h)
     refine ⟨fun j hj => ?_, ?_⟩
     · match j, hj with
       | 0, _ => simpa using hf
       | j+1, hj =>
         have := h1 j (by simpa using hj)
         rw [show n + (j+1) = n + 1 + j by omega, this]; simp
     · rw [List.length_cons, show n + ((runF f (n+1) k).length + 1) = n + 1 + (runF f (n+1) k).length by omega]; exact h2
def updF (f : Nat → Option Bs) (k : Nat) (v : Option Bs) : Nat → Option Bs := fun x => if x = k then v else f x
def cutF (f : Nat → Option Bs) (m : Nat) : Nat → Option Bs := fun k => if k < m then none else f k
/-- What was taken, and not told yet: the first number that was not told, the texts, how many. -/
structure InS where
 n : Nat
 f : Nat → Option Bs
 c : Nat
structure InS.Ok (s : InS) : Prop where
 key : ∀ k, (s.f k).isSome = true → s.n < k ∧ k < s.n + 64 ∧ k < 400
 n : s.n ≤ 400
theorem ok_step {s : InS} (hs : s.Ok) {q : Nat} {t : Bs} {out : List Bs} (hq2 : q < s.n + 64) (hq3 : q < 400) (hrun : IsRun (updF s.f q (some t)) s.n out) (c : Nat) :
 InS.Ok ⟨s.n + out.length, cutF (updF s.f q (some t)) (s.n + out.length), c⟩ := by
 have hb : ∀ k, (updF s.f q (some t) k).isSome = true → k < s.n + 64 ∧ k < 400 := fun k hk => by
  unfold updF at hk
  by_cases hkq : k = q
  · omega
  · rw [if_neg hkq] at hk
    have := hs.key k hk
    omega
 refine ⟨fun k hk => ?_, ?_⟩
 · simp only [cutF] at hk
   split at hk
   · cases hk
   · next hlt =>
     have h1 := hb k hk
     have h2 : k ≠ s.n + out.length := fun e => by rw [e, hrun.2] at hk; cases hk
     simp only
     omega
 · simp only
   rcases Nat.eq_zero_or_pos out.length with h0 | h0
   · have := hs.n; omega
   · have h1 := hrun.1 (out.length - 1) (by omega)
     rw [List.getElem?_eq_getElem (by omega)] at h1
     have := hb (s.n + (out.length - 1)) (by rw [h1]; rfl)
     omega
/-- A record comes: the error, the texts that are told, what is left. -/
def openS (key : Bs) (s : InS) (b : Bs) : Nat × List Bs × InS :=
 if badForm b then (2, [], s)
 else
  let q := beN (b.take 8)
  if q < s.n ∨ s.n + 64 ≤ q ∨ (s.f q).isSome = true then (4, [], s)
  else match plainL key q b with
   | none => (3, [], s)
   | some t =>
     let f' := updF s.f q (some t)
     let out := runF f' s.n 1000
     (0, out, ⟨s.n + out.length, cutF f' (s.n + out.length), s.c + 1 - out.length⟩)
end Go.Esc
namespace Go.Esc
open Go Go.RowKit
section
variable {P : Program} {ops : Array Oper} {Q : Exit → Act → World → Prop}
theorem op_doneB {g : Nat} {Φ : Value → World → Prop} {i : Nat} {o : Oper} {a' : Act} {w' w'' : World} (ho : ops[i]? = some o) (hw : Region.wanted o (yielded ops a'.tmps) = true)
 (hrun : (execOp a'.eval o).run P w' = .ok .skip w'') (hφ : Φ (if o.dst.isSome then undef else undef) w'') (hp : But g w' w'') :
 wpOp P ops Q i (fun a'' w'' => ∃ v, a'' = a'.put o.dst v ∧ Φ (if o.dst.isSome then v else undef) w'' ∧ But g w' w'') a' w' := by
 unfold wpOp
 simp only [ho, hw, if_true]
 refine .inl ?_
 unfold Oper.wp
 rw [hrun]
 exact ⟨undef, rfl, hφ, hp⟩
end
end Go.Esc
