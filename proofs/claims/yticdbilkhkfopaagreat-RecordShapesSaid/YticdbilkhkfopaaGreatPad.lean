/- Contracts of package pad. -/
import Derived.Test.YticdbilkhkfopaaGreatPadFill
import Derived.Test.YticdbilkhkfopaaGreatRep
set_option linter.unusedSimpArgs false
set_option linter.unusedVariables false
namespace Go.Proofs.YticdbilkhkfopaaGreat
open Go.RowKit Go.Esc

theorem mkf (fn : Fn) (first cap : Array Value) (w : World) : (Instr.makeFunc fn first cap).run Tryz.prog w = .ok (.func fn first cap) w := rfl

set_option maxHeartbeats 800000 in
set_option maxRecDepth 100000 in
theorem sizes_made (b : Nat) (w : World) (h : Row w b 291 [.int .u32 0, .int .i32 0, .int .u32 0, .slice none 0 0]) :
    Calls Tryz.prog 230 #[.pointer (some ⟨b, 0, none⟩)] w fun e w' => ∃ g cap, e = .returned (.slice (some ⟨g, 0, none⟩) 4 cap) ∧ Below b w w' ∧ b < g ∧ Row w' g 3 (ints [32, 128, 512, 2048]) := by
  have hb := h.lt
  have hmf := mkf
  have hrun : ∀ (w1 : World), (callFunc 255 #[.pointer (some ⟨w.heap.size, 0, none⟩)]).run Tryz.prog w1 = .ok (.enter 255 #[.pointer (some ⟨w.heap.size, 0, none⟩)]) w1 := fun w1 => run_callFunc_body Tryz.func255 (by kernel_rfl) (by kernel_rfl) _ w1
  have ra : Row (w.alloc (.cells #[.pointer (some ⟨b, 0, none⟩)] 317)) b 291 _ := h.alloc _
  have rp : Row (w.alloc (.cells #[.pointer (some ⟨b, 0, none⟩)] 317)) w.heap.size 317 [.pointer (some ⟨b, 0, none⟩)] := Row.new _ _ _
  have hdo := once_first b 0 255 #[.pointer (some ⟨w.heap.size, 0, none⟩)] _ (fun w2 => Below b w w2 ∧ Row w2 w.heap.size 317 [.pointer (some ⟨b, 0, none⟩)] ∧ ∃ v, Row w2 b 291 [.int .u32 0, .int .i32 1, .int .u32 0, v] ∧ w2.ownsRow (w.heap.size + 1) 3 1 v 4 (ints [32, 128, 512, 2048])) hrun (ra.cell 0 (by simp)) (ra.cell 1 (by simp)) (ra.frozen 1 (by simp)) (by
    refine (sizes_fill b w.heap.size hb _ (ra.set 1 (.int .i32 1)) (rp.setOther _ _ (by simp; omega))).mono ?_
    rintro e w2 ⟨rfl, hbel, hp2, v, hr, hown⟩
    have hown' : w2.ownsRow (w.heap.size + 1) 3 1 v 4 (ints [32, 128, 512, 2048]) := by simpa using hown
    exact ⟨rfl, ⟨(((Below.refl b w).alloc (by omega) _).setCell (Nat.le_refl _) _).trans hbel, hp2, v, hr, hown'⟩, hr.cell 0 (by simp), hr.frozen 0 (by simp), hr.cell 1 (by simp), hr.frozen 1 (by simp)⟩)
  have hd2 := hdo.mono (R' := fun e w' => e = .returned (.tuple #[]) ∧ Below b w w' ∧ w'.cell? ⟨w.heap.size, 0, none⟩ = some (.pointer (some ⟨b, 0, none⟩)) ∧ ∃ g cap, w'.cell? ⟨b, 3, none⟩ = some (.slice (some ⟨g, 0, none⟩) 4 cap) ∧ b < g ∧ Row w' g 3 (ints [32, 128, 512, 2048])) (by
    rintro e w' ⟨rfl, w2, ⟨hb2, hp2, v, hr2, hown2⟩, rfl⟩
    obtain ⟨g, cap, rfl, hg1, hg2⟩ := own_form hown2 (by decide)
    have r1 := (hr2.drew.set 0 (.int .u32 1)).set 1 (.int .i32 0)
    refine ⟨rfl, ((hb2.drew).setCell (Nat.le_refl _) _).setCell (Nat.le_refl _) _, ?_, g, cap, r1.cell 3 (by simp), by omega, ?_⟩
    · exact ((hp2.drew.setOther ⟨b, 0, none⟩ _ (by simp; omega)).setOther ⟨b, 1, none⟩ _ (by simp; omega)).cell 0 (by simp)
    · exact ((Row.own hown2).drew.setOther ⟨b, 0, none⟩ _ (by simp; omega)).setOther ⟨b, 1, none⟩ _ (by simp; omega))
  have HD := Lib.hid hd2
  clear hdo hrun hd2
  go_enter Tryz.func230, Tryz.ntmps230
  go_wp2_with (go_at_call 155; refine HD.out.mono ?_; rintro e w1 ⟨rfl, hb2, c0, g, cap, c3, hg, hrow⟩)
  go_ret
  exact ⟨g, cap, rfl, hb2, hg, hrow⟩

theorem sizes (w : World) :
    Calls Tryz.prog 196 #[] w fun e w' => ∃ g cap, e = .returned (.slice (some ⟨g, 0, none⟩) 4 cap) ∧ Pu w w' ∧ Row w' g 3 (ints [32, 128, 512, 2048]) := by
  have hm := sizes_made w.heap.size (w.alloc (.cells #[.int .u32 0, .int .i32 0, .int .u32 0, .slice none 0 0] 291)) (Row.new _ _ _)
  have HM := Lib.hid hm
  clear hm
  go_enter Tryz.func196, Tryz.ntmps196
  go_wp2_with (go_at_call 230; refine HM.out.mono ?_; rintro e w1 ⟨g, cap, rfl, hb, hg, hrow⟩)
  go_ret
  exact ⟨g, cap, rfl, ((Below.refl _ _).alloc (Nat.le_refl _) _).trans hb, hrow⟩

/-- The size for n bytes. -/
def padSize (n : Int) : Option Nat := if n < 0 then none else if n ≤ 30 then some 32 else if n ≤ 126 then some 128 else if n ≤ 510 then some 512 else if n ≤ 2046 then some 2048 else none

theorem padSize_32 {n : Int} (h : 0 ≤ n) (h1 : n ≤ 30) : padSize n = some 32 := by unfold padSize; rw [if_neg (by omega), if_pos (by omega)]
theorem padSize_128 {n : Int} (h : 31 ≤ n) (h1 : n ≤ 126) : padSize n = some 128 := by unfold padSize; rw [if_neg (by omega), if_neg (by omega), if_pos (by omega)]
theorem padSize_512 {n : Int} (h : 127 ≤ n) (h1 : n ≤ 510) : padSize n = some 512 := by unfold padSize; rw [if_neg (by omega), if_neg (by omega), if_neg (by omega), if_pos (by omega)]
theorem padSize_2048 {n : Int} (h : 511 ≤ n) (h1 : n ≤ 2046) : padSize n = some 2048 := by unfold padSize; rw [if_neg (by omega), if_neg (by omega), if_neg (by omega), if_neg (by omega), if_pos (by omega)]
theorem padSize_none {n : Int} (h : n < 0 ∨ 2047 ≤ n) : padSize n = none := by
  unfold padSize
  rcases h with h | h
  · rw [if_pos h]
  · rw [if_neg (by omega), if_neg (by omega), if_neg (by omega), if_neg (by omega), if_neg (by omega)]
def padLow : Nat → Int | 0 => 0 | 1 => 31 | 2 => 127 | 3 => 511 | _ => 2047
set_option maxHeartbeats 800000 in
theorem size (n : Int) (w : World) :
    Calls Tryz.prog 159 #[.int .i64 n] w fun e w' => e = .returned (.tuple #[.int .i64 (((padSize n).getD 0 : Nat) : Int), .bool (padSize n).isSome]) ∧ Pu w w' := by
  go_enter Tryz.func159, Tryz.ntmps159
  go_wp2_with (go_at_call 196; refine (sizes _).mono ?_; rintro e w1 ⟨g, cap, rfl, hb, hrow⟩)
  have c0 := hrow.cell 0 (by simp [ints])
  have c1 := hrow.cell 1 (by simp [ints])
  have c2 := hrow.cell 2 (by simp [ints])
  have c3 := hrow.cell 3 (by simp [ints])
  simp [ints] at c0 c1 c2 c3
  go_loop [5, 8] (fun _ i => ∃ k : Nat, k ≤ 4 ∧ i = .int .i64 k ∧ (n < 0 ∨ padLow k ≤ n)) (fun _ i => 4 - (intOf i).toNat)
  case atStart => exact ⟨0, by omega, rfl, by simp [padLow]; omega⟩
  case round =>
    obtain ⟨k, hk, rfl, hlo⟩ := hrel
    have hk5 : k = 0 ∨ k = 1 ∨ k = 2 ∨ k = 3 ∨ k = 4 := by omega
    rcases hk5 with rfl | rfl | rfl | rfl | rfl
    · simp only [padLow] at hlo
      by_cases hin : 0 ≤ n ∧ n ≤ 30
      · obtain ⟨h0, h1⟩ := hin
        go_wp2_with fail
        go_ret2
        have hs := padSize_32 (n := n) (by omega) (by omega)
        exact ⟨by rw [hs]; rfl, hb⟩
      · by_cases h0 : 0 ≤ n
        · have h1 : 30 < n := by omega
          go_wp2_with fail
          go_round
          case rel => exact ⟨1, by omega, by go_num, by simp [padLow]; omega⟩
          case measure => simp [intOf]
        · have h1 : n < 0 := by omega
          have h2 : decide (0 ≤ n) = false := by simp; omega
          go_wp2_with fail
          go_round
          case rel => exact ⟨1, by omega, by go_num, by left; omega⟩
          case measure => simp [intOf]
    · simp only [padLow] at hlo
      by_cases hin : 0 ≤ n ∧ n ≤ 126
      · obtain ⟨h0, h1⟩ := hin
        go_wp2_with fail
        go_ret2
        have hs := padSize_128 (n := n) (by omega) (by omega)
        exact ⟨by rw [hs]; rfl, hb⟩
      · by_cases h0 : 0 ≤ n
        · have h1 : 126 < n := by omega
          go_wp2_with fail
          go_round
          case rel => exact ⟨2, by omega, by go_num, by simp [padLow]; omega⟩
          case measure => simp [intOf]
        · have h1 : n < 0 := by omega
          have h2 : decide (0 ≤ n) = false := by simp; omega
          go_wp2_with fail
          go_round
          case rel => exact ⟨2, by omega, by go_num, by left; omega⟩
          case measure => simp [intOf]
    · simp only [padLow] at hlo
      by_cases hin : 0 ≤ n ∧ n ≤ 510
      · obtain ⟨h0, h1⟩ := hin
        go_wp2_with fail
        go_ret2
        have hs := padSize_512 (n := n) (by omega) (by omega)
        exact ⟨by rw [hs]; rfl, hb⟩
      · by_cases h0 : 0 ≤ n
        · have h1 : 510 < n := by omega
          go_wp2_with fail
          go_round
          case rel => exact ⟨3, by omega, by go_num, by simp [padLow]; omega⟩
          case measure => simp [intOf]
        · have h1 : n < 0 := by omega
          have h2 : decide (0 ≤ n) = false := by simp; omega
          go_wp2_with fail
          go_round
          case rel => exact ⟨3, by omega, by go_num, by left; omega⟩
          case measure => simp [intOf]
    · simp only [padLow] at hlo
      by_cases hin : 0 ≤ n ∧ n ≤ 2046
      · obtain ⟨h0, h1⟩ := hin
        go_wp2_with fail
        go_ret2
        have hs := padSize_2048 (n := n) (by omega) (by omega)
        exact ⟨by rw [hs]; rfl, hb⟩
      · by_cases h0 : 0 ≤ n
        · have h1 : 2046 < n := by omega
          go_wp2_with fail
          go_round
          case rel => exact ⟨4, by omega, by go_num, by simp [padLow]; omega⟩
          case measure => simp [intOf]
        · have h1 : n < 0 := by omega
          have h2 : decide (0 ≤ n) = false := by simp; omega
          go_wp2_with fail
          go_round
          case rel => exact ⟨4, by omega, by go_num, by left; omega⟩
          case measure => simp [intOf]
    · simp only [padLow] at hlo
      go_wp2_with fail
      go_ret2
      have hs := padSize_none (n := n) (by omega)
      exact ⟨by rw [hs]; rfl, hb⟩

/-- A text filled up. -/
def padL (b : List UInt8) : Option (List UInt8) := (padSize b.length).map fun s => putB b.length 2 ++ b ++ List.replicate (s - 2 - b.length) 0
theorem padSize_some {b : List UInt8} {s : Nat} (h : padSize (b.length : Int) = some s) : b.length + 2 ≤ s ∧ s ≤ 2048 := by
  rcases (by omega : (b.length : Int) ≤ 30 ∨ (31 ≤ (b.length : Int) ∧ (b.length : Int) ≤ 126) ∨ (127 ≤ (b.length : Int) ∧ (b.length : Int) ≤ 510) ∨ (511 ≤ (b.length : Int) ∧ (b.length : Int) ≤ 2046) ∨ 2047 ≤ (b.length : Int)) with k | k | k | k | k
  · rw [padSize_32 (by omega) k] at h; simp at h; omega
  · rw [padSize_128 k.1 k.2] at h; simp at h; omega
  · rw [padSize_512 k.1 k.2] at h; simp at h; omega
  · rw [padSize_2048 k.1 k.2] at h; simp at h; omega
  · rw [padSize_none (.inr k)] at h; simp at h

set_option maxHeartbeats 800000 in
theorem pad (b : List UInt8) (w : World) (hb : b.length ≤ 140737488351232) :
    Calls Tryz.prog 92 #[S b] w fun e w' => e = .returned (.tuple #[S ((padL b).getD []), .bool (padL b).isSome]) ∧ Pu w w' := by
  cases hs : padSize (b.length : Int) with
  | none =>
    have hp : padL b = none := by simp [padL, hs]
    have HP := Lib.hid hp
    have hz := size (b.length : Int)
    rw [hs] at hz
    have HZ := Lib.hid hz
    clear hp hz hs
    go_enter Tryz.func92, Tryz.ntmps92
    go_wp2_with (go_at_call 159; refine (HZ.out _).mono ?_; rintro e w1 ⟨rfl, hb1⟩)
    go_ret2
    exact ⟨by rw [HP.out]; rfl, hb1⟩
  | some s =>
    have hp : padL b = some (putB b.length 2 ++ b ++ List.replicate (s - 2 - b.length) 0) := by simp [padL, hs]
    have HP := Lib.hid hp
    have hz := size (b.length : Int)
    obtain ⟨h1, h2⟩ := padSize_some hs
    rw [hs] at hz
    have HZ := Lib.hid hz
    clear hp hz hs
    have hpl : (putB b.length 2).length ≤ 2 := by rw [putB_length]; omega
    go_enter Tryz.func92, Tryz.ntmps92
    go_wp2_with (first | (go_at_call 159; refine (HZ.out _).mono ?_; rintro e w1 ⟨rfl, hb1⟩) | (go_at_call 93; refine (putBig _ _ _ (by omega) (by omega) (by omega)).mono ?_; rintro e w2 ⟨rfl, hb2⟩) | (go_at_call 160; refine (rep 0 _ _ (by omega) (by omega)).mono ?_; rintro e w3 ⟨rfl, hb3⟩))
    go_ret2
    refine ⟨?_, (hb1.trans hb2).trans hb3⟩
    rw [HP.out]
    rfl

/-- What was filled up. -/
def unpadL (b : List UInt8) : Option (List UInt8) :=
  if b.length < 2 then none else
  let n := beN (b.take 2)
  if b.length - 2 < n then none else
  let o := (b.take (2 + n)).drop 2
  if padL o = some b then some o else none

set_option maxHeartbeats 800000 in
set_option maxRecDepth 100000 in
theorem unpad (b : List UInt8) (w : World) (hb : b.length ≤ 140737488351232) :
    Calls Tryz.prog 171 #[S b] w fun e w' => e = .returned (.tuple #[S ((unpadL b).getD []), .bool (unpadL b).isSome]) ∧ Pu w w' := by
  by_cases h2 : b.length < 2
  · have hp : unpadL b = none := by simp [unpadL, h2]
    have HP := Lib.hid hp
    clear hp
    go_enter Tryz.func171, Tryz.ntmps171
    go_wp2_with fail
    go_ret2
    exact ⟨by rw [HP.out]; rfl, Below.refl _ _⟩
  · have hB : beN (b.take 2) < 65536 := by have := beN_lt (b.take 2); simp at this; rw [Nat.min_eq_left (by omega)] at this; omega
    obtain ⟨n, hn⟩ : ∃ n, n = beN (b.take 2) := ⟨_, rfl⟩
    have hbig := big (b.take 2)
    rw [← hn] at hbig hB
    have HB := Lib.hid hbig
    clear hbig
    by_cases hlt : b.length - 2 < n
    · have hp : unpadL b = none := by simp [unpadL, h2, ← hn, hlt]
      have HP := Lib.hid hp
      clear hp hn
      have hlt' : (b.length : Int) - 2 < n := by omega
      go_enter Tryz.func171, Tryz.ntmps171
      go_wp2_with (go_at_call 102; refine (HB.out _ (by simp; omega)).mono ?_; rintro e w1 ⟨rfl, hb1⟩)
      go_ret2
      exact ⟨by rw [HP.out]; rfl, hb1⟩
    · have hle : (n : Int) ≤ (b.length : Int) - 2 := by omega
      have hs1 : (2:Int) ≤ 2 + (n:Int) := by omega
      have hs2 : 2 + (n:Int) ≤ (b.length:Int) := by omega
      obtain ⟨o, ho⟩ : ∃ o, o = (b.take (2 + n)).drop 2 := ⟨_, rfl⟩
      have hu : unpadL b = if padL o = some b then some o else none := by
        rw [unpadL, if_neg h2]; simp only [← hn, if_neg hlt, ← ho]
      have hol : o.length ≤ b.length := by rw [ho]; simp; omega
      have hpad := fun w => pad o w (by omega)
      have HO := Lib.hid ho
      clear ho hn
      cases hpo : padL o with
      | none =>
        rw [hpo] at hpad
        have hp : unpadL b = none := by rw [hu, hpo]; simp
        have HP := Lib.hid hp
        have HD := Lib.hid hpad
        clear hp hpad hu hpo
        go_enter Tryz.func171, Tryz.ntmps171
        go_wp2_with (first | (go_at_call 102; refine (HB.out _ (by simp; omega)).mono ?_; rintro e w1 ⟨rfl, hb1⟩) | (go_at_call 92; rw [← HO.out]; refine (HD.out _).mono ?_; rintro e w2 ⟨rfl, hb2⟩))
        go_ret2
        exact ⟨by rw [HP.out]; rfl, hb1.trans hb2⟩
      | some q =>
        rw [hpo] at hpad
        have HD := Lib.hid hpad
        by_cases hq : q = b
        · have hp : unpadL b = some o := by rw [hu, hpo, hq]; simp
          have HP := Lib.hid hp
          have hqb : (q == b) = true := by simpa using hq
          clear hp hpad hu hpo hq
          go_enter Tryz.func171, Tryz.ntmps171
          go_wp2_with (first | (go_at_call 102; refine (HB.out _ (by simp; omega)).mono ?_; rintro e w1 ⟨rfl, hb1⟩) | (go_at_call 92; rw [← HO.out]; refine (HD.out _).mono ?_; rintro e w2 ⟨rfl, hb2⟩))
          go_ret2
          exact ⟨by rw [HP.out]; rfl, hb1.trans hb2⟩
        · have hp : unpadL b = none := by rw [hu, hpo]; simp [hq]
          have HP := Lib.hid hp
          have hqb : (q == b) = false := by simpa using hq
          clear hp hpad hu hpo hq
          go_enter Tryz.func171, Tryz.ntmps171
          go_wp2_with (first | (go_at_call 102; refine (HB.out _ (by simp; omega)).mono ?_; rintro e w1 ⟨rfl, hb1⟩) | (go_at_call 92; rw [← HO.out]; refine (HD.out _).mono ?_; rintro e w2 ⟨rfl, hb2⟩))
          go_ret2
          exact ⟨by rw [HP.out]; rfl, hb1.trans hb2⟩
end Go.Proofs.YticdbilkhkfopaaGreat
