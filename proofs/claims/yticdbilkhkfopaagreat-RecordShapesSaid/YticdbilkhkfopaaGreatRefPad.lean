/- The document's Size, Pad, Unpad. -/
import Derived.Test.YticdbilkhkfopaaGreatT18
set_option linter.unusedSimpArgs false
set_option linter.unusedVariables false
namespace Go.Proofs.YticdbilkhkfopaaGreat
open Go.RowKit Go.Esc
set_option maxHeartbeats 400000 in
theorem refZeros' (n : Nat) (hn : n ≤ 1000000) (w : World) :
    Calls Tryz.prog 142 #[.int .i64 (n : Int)] w fun e w' => e = .returned (S (List.replicate n 0)) ∧ Pu w w' := by
  obtain ⟨i0, hi, hz0, hz1, hz2⟩ := info_parts infoB
  go_enter Tryz.func142, Tryz.ntmps142
  go_wp2_with (at_make; refine wpList_make_full _ rfl _ _ 42 rfl w.heap.size 5 i0 (.int .u8 0) 1 Tryz.underlying42 hi hz0 hz1 _ _ _ _ n rfl rfl rfl rfl (by rw [hz2]; omega) (by unfold maxLen; omega) (Nat.le_refl _) ?_; intro w1 hown hgrow; rw [madeZ] at hown; have hcv := own_conv (P := Tryz.prog) 42 9 hown Tryz.underlying42 Tryz.underlying5 Tryz.underlying9)
  go_ret
  exact ⟨rfl, (Below.refl _ _).grown hgrow (Nat.le_refl _) (by simp)⟩
theorem refBig' (l : List UInt8) (w : World) (hl : l.length ≤ 8) :
    Calls Tryz.prog 97 #[S l] w fun e w' => e = .returned (.int .u64 (beN l)) ∧ Pu w w' := by
  refine (refBig l w hl).mono ?_
  rintro e w' ⟨rfl, rfl⟩
  exact ⟨rfl, Below.refl _ _⟩
set_option maxHeartbeats 800000 in
theorem refSize (n : Int) (w : World) :
    Calls Tryz.prog 57 #[.int .i64 n] w fun e w' => e = .returned (.tuple #[.int .i64 (((padSize n).getD 0 : Nat) : Int), .bool (padSize n).isSome]) ∧ Pu w w' := by
  go_enter Tryz.func57, Tryz.ntmps57
  have hb : Pu w (w.alloc (.cells #[.int .i64 32, .int .i64 128, .int .i64 512, .int .i64 2048] 3)) := ((Below.refl _ _).alloc (Nat.le_refl _) _)
  go_wp2_with fail
  go_loop [5] (fun i => ∃ k : Nat, k ≤ 4 ∧ i = .int .i64 k ∧ (n < 0 ∨ padLow k ≤ n)) (fun i => 4 - (intOf i).toNat)
  case atStart => exact ⟨0, by omega, rfl, by simp [padLow]; omega⟩
  case round =>
    obtain ⟨k, hk, rfl, hlo⟩ := hrel
    have hk5 : k = 0 ∨ k = 1 ∨ k = 2 ∨ k = 3 ∨ k = 4 := by omega
    rcases hk5 with rfl | rfl | rfl | rfl | rfl
    · simp only [padLow] at hlo
      by_cases hin : 0 ≤ n ∧ n ≤ 30
      · obtain ⟨h0, h1⟩ := hin
        go_wp2_with fail
        go_ret2
        have hs := padSize_32 (n := n) (by omega) (by omega)
        exact ⟨by rw [hs]; rfl, hb⟩
      · by_cases h0 : 0 ≤ n
        · have h1 : 30 < n := by omega
          go_wp2_with fail
          go_round
          case rel => exact ⟨1, by omega, by go_num, by simp [padLow]; omega⟩
          case measure => simp [intOf]
        · have h1 : n < 0 := by omega
          have h2 : decide (0 ≤ n) = false := by simp; omega
          go_wp2_with fail
          go_round
          case rel => exact ⟨1, by omega, by go_num, by left; omega⟩
          case measure => simp [intOf]
    · simp only [padLow] at hlo
      by_cases hin : 0 ≤ n ∧ n ≤ 126
      · obtain ⟨h0, h1⟩ := hin
        go_wp2_with fail
        go_ret2
        have hs := padSize_128 (n := n) (by omega) (by omega)
        exact ⟨by rw [hs]; rfl, hb⟩
      · by_cases h0 : 0 ≤ n
        · have h1 : 126 < n := by omega
          go_wp2_with fail
          go_round
          case rel => exact ⟨2, by omega, by go_num, by simp [padLow]; omega⟩
          case measure => simp [intOf]
        · have h1 : n < 0 := by omega
          have h2 : decide (0 ≤ n) = false := by simp; omega
          go_wp2_with fail
          go_round
          case rel => exact ⟨2, by omega, by go_num, by left; omega⟩
          case measure => simp [intOf]
    · simp only [padLow] at hlo
      by_cases hin : 0 ≤ n ∧ n ≤ 510
      · obtain ⟨h0, h1⟩ := hin
        go_wp2_with fail
        go_ret2
        have hs := padSize_512 (n := n) (by omega) (by omega)
        exact ⟨by rw [hs]; rfl, hb⟩
      · by_cases h0 : 0 ≤ n
        · have h1 : 510 < n := by omega
          go_wp2_with fail
          go_round
          case rel => exact ⟨3, by omega, by go_num, by simp [padLow]; omega⟩
          case measure => simp [intOf]
        · have h1 : n < 0 := by omega
          have h2 : decide (0 ≤ n) = false := by simp; omega
          go_wp2_with fail
          go_round
          case rel => exact ⟨3, by omega, by go_num, by left; omega⟩
          case measure => simp [intOf]
    · simp only [padLow] at hlo
      by_cases hin : 0 ≤ n ∧ n ≤ 2046
      · obtain ⟨h0, h1⟩ := hin
        go_wp2_with fail
        go_ret2
        have hs := padSize_2048 (n := n) (by omega) (by omega)
        exact ⟨by rw [hs]; rfl, hb⟩
      · by_cases h0 : 0 ≤ n
        · have h1 : 2046 < n := by omega
          go_wp2_with fail
          go_round
          case rel => exact ⟨4, by omega, by go_num, by simp [padLow]; omega⟩
          case measure => simp [intOf]
        · have h1 : n < 0 := by omega
          have h2 : decide (0 ≤ n) = false := by simp; omega
          go_wp2_with fail
          go_round
          case rel => exact ⟨4, by omega, by go_num, by left; omega⟩
          case measure => simp [intOf]
    · simp only [padLow] at hlo
      go_wp2_with fail
      go_ret2
      have hs := padSize_none (n := n) (by omega)
      exact ⟨by rw [hs]; rfl, hb⟩

set_option maxHeartbeats 800000 in
set_option maxRecDepth 100000 in
theorem refPad (b : List UInt8) (w : World) (hb : b.length ≤ 1000000) :
    Calls Tryz.prog 106 #[S b] w fun e w' => e = .returned (.tuple #[S ((padL b).getD []), .bool (padL b).isSome]) ∧ Pu w w' := by
  cases hs : padSize (b.length : Int) with
  | none =>
    have hp : padL b = none := by simp [padL, hs]
    have HP := Lib.hid hp
    have hz := refSize (b.length : Int)
    rw [hs] at hz
    have HZ := Lib.hid hz
    clear hp hz hs
    go_enter Tryz.func106, Tryz.ntmps106
    go_wp2_with (go_at_call 57; refine (HZ.out _).mono ?_; rintro e w1 ⟨rfl, hb1⟩)
    go_ret2
    exact ⟨by rw [HP.out]; rfl, hb1⟩
  | some s =>
    have hp : padL b = some (putB b.length 2 ++ b ++ List.replicate (s - 2 - b.length) 0) := by simp [padL, hs]
    have HP := Lib.hid hp
    have hz := refSize (b.length : Int)
    obtain ⟨h1, h2⟩ := padSize_some hs
    rw [hs] at hz
    have HZ := Lib.hid hz
    clear hp hz hs
    obtain ⟨z, hzz⟩ : ∃ z, z = s - 2 - b.length := ⟨_, rfl⟩
    have hz0 := fun w => refZeros' z (by omega) w
    have HZ0 := Lib.hid hz0
    have zz1 : (s : Int) - 2 - b.length = z := by omega
    have zz2 : IntKind.i64.wrap ((s : Int) - 2) = (s : Int) - 2 := by rw [IntKind.wrap_i64]; omega
    have zz3 : IntKind.i64.wrap (z : Int) = z := by rw [IntKind.wrap_i64]; omega
    have HZZ := Lib.hid hzz
    clear hz0 hzz
    have hpl : (putB b.length 2).length ≤ 2 := by rw [putB_length]; omega
    go_enter Tryz.func106, Tryz.ntmps106
    go_wp2_with (first | (go_at_call 57; refine (HZ.out _).mono ?_; rintro e w1 ⟨rfl, hb1⟩) | (go_at_call 58; refine (refPutBig _ _ _ (by omega) (by omega) (by omega) (by omega)).mono ?_; rintro e w2 ⟨rfl, hb2⟩) | (go_at_call 142; refine (HZ0.out _).mono ?_; rintro e w3 ⟨rfl, hb3⟩))
    go_ret2
    refine ⟨?_, (hb1.trans hb2).trans hb3⟩
    rw [HP.out, ← HZZ.out]
    rfl

set_option maxHeartbeats 800000 in
set_option maxRecDepth 100000 in
theorem refUnpad (b : List UInt8) (w : World) (hb : b.length ≤ 1000000) :
    Calls Tryz.prog 101 #[S b] w fun e w' => e = .returned (.tuple #[S ((unpadL b).getD []), .bool (unpadL b).isSome]) ∧ Pu w w' := by
  by_cases h2 : b.length < 2
  · have hp : unpadL b = none := by simp [unpadL, h2]
    have HP := Lib.hid hp
    clear hp
    go_enter Tryz.func101, Tryz.ntmps101
    go_wp2_with fail
    go_ret2
    exact ⟨by rw [HP.out]; rfl, Below.refl _ _⟩
  · have hB : beN (b.take 2) < 65536 := by have := beN_lt (b.take 2); simp at this; rw [Nat.min_eq_left (by omega)] at this; omega
    obtain ⟨n, hn⟩ : ∃ n, n = beN (b.take 2) := ⟨_, rfl⟩
    have hbig := refBig' (b.take 2)
    rw [← hn] at hbig hB
    have HB := Lib.hid hbig
    clear hbig
    by_cases hlt : b.length - 2 < n
    · have hp : unpadL b = none := by simp [unpadL, h2, ← hn, hlt]
      have HP := Lib.hid hp
      clear hp hn
      have hlt' : (b.length : Int) - 2 < n := by omega
      go_enter Tryz.func101, Tryz.ntmps101
      go_wp2_with (go_at_call 97; refine (HB.out _ (by simp; omega)).mono ?_; rintro e w1 ⟨rfl, hb1⟩)
      go_ret2
      exact ⟨by rw [HP.out]; rfl, hb1⟩
    · have hle : (n : Int) ≤ (b.length : Int) - 2 := by omega
      have hs1 : (2:Int) ≤ 2 + (n:Int) := by omega
      have hs2 : 2 + (n:Int) ≤ (b.length:Int) := by omega
      obtain ⟨o, ho⟩ : ∃ o, o = (b.take (2 + n)).drop 2 := ⟨_, rfl⟩
      have hu : unpadL b = if padL o = some b then some o else none := by
        rw [unpadL, if_neg h2]; simp only [← hn, if_neg hlt, ← ho]
      have hol : o.length ≤ b.length := by rw [ho]; simp; omega
      have hpad := fun w => refPad o w (by omega)
      have HO := Lib.hid ho
      clear ho hn
      cases hpo : padL o with
      | none =>
        rw [hpo] at hpad
        have hp : unpadL b = none := by rw [hu, hpo]; simp
        have HP := Lib.hid hp
        have HD := Lib.hid hpad
        clear hp hpad hu hpo
        go_enter Tryz.func101, Tryz.ntmps101
        go_wp2_with (first | (go_at_call 97; refine (HB.out _ (by simp; omega)).mono ?_; rintro e w1 ⟨rfl, hb1⟩) | (go_at_call 106; rw [← HO.out]; refine (HD.out _).mono ?_; rintro e w2 ⟨rfl, hb2⟩))
        go_ret2
        exact ⟨by rw [HP.out]; rfl, hb1.trans hb2⟩
      | some q =>
        rw [hpo] at hpad
        have HD := Lib.hid hpad
        by_cases hq : q = b
        · have hp : unpadL b = some o := by rw [hu, hpo, hq]; simp
          have HP := Lib.hid hp
          have hqb : (q == b) = true := by simpa using hq
          clear hp hpad hu hpo hq
          go_enter Tryz.func101, Tryz.ntmps101
          go_wp2_with (first | (go_at_call 97; refine (HB.out _ (by simp; omega)).mono ?_; rintro e w1 ⟨rfl, hb1⟩) | (go_at_call 106; rw [← HO.out]; refine (HD.out _).mono ?_; rintro e w2 ⟨rfl, hb2⟩))
          go_ret2
          exact ⟨by rw [HP.out]; exact congrArg (fun l => Ending.returned (.tuple #[S l, .bool true])) HO.out.symm, hb1.trans hb2⟩
        · have hp : unpadL b = none := by rw [hu, hpo]; simp [hq]
          have HP := Lib.hid hp
          have hqb : (q == b) = false := by simpa using hq
          clear hp hpad hu hpo hq
          go_enter Tryz.func101, Tryz.ntmps101
          go_wp2_with (first | (go_at_call 97; refine (HB.out _ (by simp; omega)).mono ?_; rintro e w1 ⟨rfl, hb1⟩) | (go_at_call 106; rw [← HO.out]; refine (HD.out _).mono ?_; rintro e w2 ⟨rfl, hb2⟩))
          go_ret2
          exact ⟨by rw [HP.out]; rfl, hb1.trans hb2⟩
end Go.Proofs.YticdbilkhkfopaaGreat
